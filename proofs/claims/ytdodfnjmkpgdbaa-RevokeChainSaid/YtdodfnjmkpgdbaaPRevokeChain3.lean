/- RevokeChain. Laid together by pack.py out of the texts in wip. -/
import Derived.Test.YtdodfnjmkpgdbaaPRevokeChain2
set_option linter.unusedVariables false
set_option linter.unusedSimpArgs false
set_option linter.unusedSectionVars false
section
set_option linter.unusedVariables false
set_option linter.unusedSimpArgs false
namespace Go.Proofs.Ytdodfnjmkpgdbaa
open Go.SL
theorem tr_treeNew  : Tr Try.prog 43 [] ([]) (fun v L' => ∃ tb, v = .pointer (some ⟨tb, 0, none⟩) ∧ TrH ⟨0, fun _ => (0, 0), fun _ => none, fun _ => [], []⟩ tb L') := by
 refine Tr.enter Try.func43 rfl Try.ntmps43 rfl (fun W F => ?_)
 refine Wp.app ?_
 refine Wp.seq ?_
 refine Wp.region ?_
 refine Ops.pv (pv_assign rfl) rfl ?_
 refine Ops.nil ?_
 refine Ends.seq ?_
 refine Wp.seq ?_
 refine Wp.region ?_
 refine Ops.ef rfl (ef_makeMap rfl rfl) ?_
 rintro _ _ ⟨b1, rfl, rfl⟩
 refine Ops.pv (pv_build rfl) rfl ?_
 refine Ops.ef rfl (ef_boxK rfl rfl) ?_
 rintro _ _ ⟨b2, rfl, rfl⟩
 refine Ops.pv (pv_assign rfl) rfl ?_
 refine Ops.nil ?_
 refine Ends.seq ?_
 refine Wp.ret ?_
 exact Ends.ret (L' := [trBlk b2 b1, (b1, .map #[] 0)]) (res1 rfl rfl) ⟨b2, rfl, b1, 0, fun _ => 0, fun _ => .pointer none, fun _ => [], fun i hi => absurd hi (Nat.not_lt_zero i), rfl⟩
theorem tr_tHas (tb : Nat) (L : Hp) (T : TreeM) (hH : TrH T tb L) (s : SlotM) : TrR Try.prog 74 [.pointer (some ⟨tb, 0, none⟩), slotV s] (L) (.bool (tget s T.M).isSome) := by
 obtain ⟨mb, clk, blk, kv, kH, hk, rfl⟩ := hH
 have hm := tptr_hm blk T.M s
 refine Tr.enter Try.func74 rfl Try.ntmps74 rfl (fun W F => ?_)
 refine Wp.app ?_
 refine Wp.seq ?_
 refine Wp.region ?_
 refine Ops.ef rfl (ef_boxK rfl rfl) ?_
 rintro _ _ ⟨b1, rfl, rfl⟩
 refine Ops.pv (pv_assign rfl) rfl ?_
 refine Ops.nil ?_
 refine Ends.seq ?_
 refine Wp.seq ?_
 refine AnyH.start ((b1, .cells [.int .i64 s.1, .int .i64 s.2].toArray 38) :: trBlk tb mb :: mpBlk mb blk T.M clk :: segs (knS blk T kv kH) T.n) 8 rfl ?_
 refine Tk 0 rfl rfl (pv_move rfl) rfl ?_
 refine Tk 1 rfl rfl (pv_nilCheck rfl) rfl ?_
 refine Tk 2 rfl rfl (pv_fieldAddr0 rfl rfl) rfl ?_
 refine Tk 3 rfl rfl (pv_load rfl rfl rfl) rfl ?_
 refine Tk 4 rfl rfl (pv_loadK [_, _] rfl rfl rfl ⟨rfl, rfl, trivial⟩) rfl ?_
 refine Tk 5 rfl rfl (pv_lookup_s s rfl rfl hm) rfl ?_
 refine Tk 6 rfl rfl (pv_neq_nil rfl rfl) rfl ?_
 refine Tk 7 rfl rfl (pv_assign rfl) rfl ?_
 refine AnyH.done (by kernel_rfl) ?_
 refine Ends.seq ?_
 refine Wp.ret ?_
 exact Ends.ret (res1 rfl rfl) ⟨by rw [tptr_is], rfl⟩
theorem tr_tKin0 (tb : Nat) (L : Hp) (T : TreeM) (hH : TrH T tb L) (s : SlotM) (h : tget s T.M = none) : Tr Try.prog 47 [.pointer (some ⟨tb, 0, none⟩), slotV s] (L) (fun u L' => u = .slice none 0 0 ∧ L' = L) := by
 obtain ⟨mb, clk, blk, kv, kH, hk, rfl⟩ := hH
 have hm := tptr_hm blk T.M s
 rw [tptr_no h] at hm
 refine Tr.enter Try.func47 rfl Try.ntmps47 rfl (fun W F => ?_)
 refine Wp.app ?_
 refine Wp.seq ?_
 refine Wp.region ?_
 refine Ops.ef rfl (ef_boxK rfl rfl) ?_
 rintro _ _ ⟨b1, rfl, rfl⟩
 refine Ops.pv (pv_assign rfl) rfl ?_
 refine Ops.nil ?_
 refine Ends.seq ?_
 refine Wp.seq ?_
 refine Wp.region ?_
 refine Ops.pv (pv_assign rfl) rfl ?_
 refine Ops.nil ?_
 refine Ends.seq ?_
 refine Wp.seq ?_
 refine AnyH.start ((b1, .cells [.int .i64 s.1, .int .i64 s.2].toArray 38) :: trBlk tb mb :: mpBlk mb blk T.M clk :: segs (knS blk T kv kH) T.n) 7 rfl ?_
 refine Tk 0 rfl rfl (pv_move rfl) rfl ?_
 refine Tk 1 rfl rfl (pv_nilCheck rfl) rfl ?_
 refine Tk 2 rfl rfl (pv_fieldAddr0 rfl rfl) rfl ?_
 refine Tk 3 rfl rfl (pv_load rfl rfl rfl) rfl ?_
 refine Tk 4 rfl rfl (pv_loadK [_, _] rfl rfl rfl ⟨rfl, rfl, trivial⟩) rfl ?_
 refine Tk 5 rfl rfl (pv_lookup_s s rfl rfl hm) rfl ?_
 refine Tk 6 rfl rfl (pv_assign rfl) rfl ?_
 refine AnyH.done (by kernel_rfl) ?_
 refine Ends.seq ?_
 refine Wp.seq ?_
 refine Wp.seq ?_
 refine Wp.region ?_
 refine Ops.pv (pv_move rfl) rfl ?_
 refine Ops.pv (pv_eql_nil rfl rfl) rfl ?_
 refine Ops.nil ?_
 refine Ends.seq ?_
 refine Wp.cond_true rfl ?_
 refine Wp.seq ?_
 refine Wp.region ?_
 refine Ops.pv (pv_assign rfl) rfl ?_
 refine Ops.nil ?_
 refine Ends.seq ?_
 refine Wp.ret ?_
 refine Ends.then_ret ?_
 exact Ends.ret (L' := trBlk tb mb :: mpBlk mb blk T.M clk :: segs (knS blk T kv kH) T.n) (res1 rfl rfl) ⟨rfl, rfl⟩
set_option maxHeartbeats 1000000 in
theorem tr_tKin1 (tb : Nat) (L : Hp) (T : TreeM) (hH : TrH T tb L) (Fo0 : (Fo Nat)) (hT : TOk T Fo0) (hn : T.n ≤ 2 ^ 20) (s : SlotM) (i : Nat) (h : tget s T.M = some i) : Tr Try.prog 47 [.pointer (some ⟨tb, 0, none⟩), slotV s] (L) (fun u L' => ∃ K, Slc 38 2 u ((Fo.sub i Fo0).all.map T.sl).length (slotsCells ((Fo.sub i Fo0).all.map T.sl)) K ∧ L' = K ++ L) := by
 obtain ⟨mb, clk, blk, kv, kH, hk, rfl⟩ := hH
 have hm := tptr_hm blk T.M s
 have hx := hT.ix
 rw [tptr_some h] at hm
 have hi := hx.get h
 have hb_i := kn_blk (blk := blk) (T := T) (kv := kv) (kH := kH) (i := i) hi
 obtain ⟨ka, kc, hkv⟩ := kn_form hk hi
 have hv := kn_view2 hk hi
 rw [hkv] at hv hb_i
 have hks := hx.small i hi
 have him := hT.mem h
 obtain ⟨hsr, hsk⟩ := Fo.OkK.sub hT.kids him
 have hsl := sub_len Fo0 i
 have hal := hT.all_len
 have hlm : ((T.kids i).map blk).length = (T.kids i).length := List.length_map ..
 refine Tr.enter Try.func47 rfl Try.ntmps47 rfl (fun W F => ?_)
 refine Wp.app ?_
 refine Wp.seq ?_
 refine Wp.region ?_
 refine Ops.ef rfl (ef_boxK rfl rfl) ?_
 rintro _ _ ⟨b1, rfl, rfl⟩
 refine Ops.pv (pv_assign rfl) rfl ?_
 refine Ops.nil ?_
 refine Ends.seq ?_
 refine Wp.seq ?_
 refine Wp.region ?_
 refine Ops.pv (pv_assign rfl) rfl ?_
 refine Ops.nil ?_
 refine Ends.seq ?_
 refine Wp.seq ?_
 refine AnyH.start ((b1, .cells [.int .i64 s.1, .int .i64 s.2].toArray 38) :: trBlk tb mb :: mpBlk mb blk T.M clk :: segs (knS blk T kv kH) T.n) 7 rfl ?_
 refine Tk 0 rfl rfl (pv_move rfl) rfl ?_
 refine Tk 1 rfl rfl (pv_nilCheck rfl) rfl ?_
 refine Tk 2 rfl rfl (pv_fieldAddr0 rfl rfl) rfl ?_
 refine Tk 3 rfl rfl (pv_load rfl rfl rfl) rfl ?_
 refine Tk 4 rfl rfl (pv_loadK [_, _] rfl rfl rfl ⟨rfl, rfl, trivial⟩) rfl ?_
 refine Tk 5 rfl rfl (pv_lookup_s s rfl rfl hm) rfl ?_
 refine Tk 6 rfl rfl (pv_assign rfl) rfl ?_
 refine AnyH.done (by kernel_rfl) ?_
 refine Ends.seq ?_
 refine Wp.seq ?_
 refine Wp.seq ?_
 refine Wp.region ?_
 refine Ops.pv (pv_move rfl) rfl ?_
 refine Ops.pv (pv_eql_nil rfl rfl) rfl ?_
 refine Ops.nil ?_
 refine Ends.seq ?_
 refine Wp.cond_false rfl ?_
 refine Wp.skip ?_
 refine Ends.seq ?_
 refine Wp.seq ?_
 refine Wp.seq ?_
 refine Wp.region ?_
 refine Ops.pv (pv_move rfl) rfl ?_
 refine Ops.pv (pv_nilCheck rfl) rfl ?_
 refine Ops.pv (pv_fieldAddr0 rfl rfl) rfl ?_
 refine Ops.pv (pv_load rfl rfl rfl) rfl ?_
 refine Ops.ef rfl (ef_call (tr_clone (segs (knS blk T kv kH) T.n) ka kc ((T.kids i).map blk) hv (by omega)) rfl rfl) ?_
 rintro _ _ ⟨_, _, ⟨J1, hJ1, rfl⟩, rfl, rfl⟩
 refine Ops.app ?_
 refine Ops.pv (pv_assign rfl) rfl ?_
 refine Ops.nil ?_
 refine Ends.seq ?_
 refine Wp.block ?_
 refine Wp.loopK (σ := Value × Hp × Value × Hp × List SlotM × (Fo Nat)) [] (fun s => [(5, s.1), (7, s.2.2.1)]) (fun s => s.2.1 ++ (s.2.2.2.1 ++ (trBlk tb mb :: mpBlk mb blk T.M clk :: (segs (knS blk T kv kH) T.n ++ F)))) (fun s => Slc 38 2 s.1 s.2.2.2.2.1.length (slotsCells s.2.2.2.2.1) s.2.1 ∧ Slc 109 1 s.2.2.1 (s.2.2.2.2.2.roots.map blk).length (ptsC (s.2.2.2.2.2.roots.map blk)) s.2.2.2.1 ∧ Fo.OkK T.kids s.2.2.2.2.2 ∧ (∀ z, z ∈ s.2.2.2.2.2.all → z < T.n) ∧ s.2.2.2.2.1 ++ s.2.2.2.2.2.all.map T.sl = (Fo.sub i Fo0).all.map T.sl ∧ s.2.2.2.2.1.length + s.2.2.2.2.2.all.length ≤ T.n) (fun s => s.2.2.2.2.2.all.length) (.slice none 0 0, [], _, J1, [], Fo.sub i Fo0) ⟨Slc.nil _ _, by rw [← hsr]; exact hJ1, hsk, fun z hz => hT.lt z (Fo.sub_all _ _ z hz), rfl, by simp; omega⟩ trivial ⟨rfl, rfl, trivial⟩ (by intro w ho; (try dsimp only [List.nil_append, List.cons_append]); exact Drop.own ho) ?_
 rintro ⟨u, K, w, J, dn, g⟩ KK ⟨hu, hw, hok, hlt, htot, hgl⟩ hK
 dsimp only [List.cons_append, List.nil_append] at hK ⊢
 dsimp only at hu hw hok hlt htot hgl ⊢
 obtain ⟨wa, wc, rfl⟩ := hw.form
 refine Wp.seq ?_
 refine Wp.seq ?_
 refine Wp.region ?_
 refine Ops.pv (pv_move rfl) rfl ?_
 refine Ops.pv (pv_len_slice (T := 110) rfl rfl) rfl ?_
 refine Ops.pv (pv_gtr rfl rfl) rfl ?_
 refine Ops.nil ?_
 refine Ends.seq ?_
 refine Wp.cond_dect rfl (fun h1 => ?_) (fun h1 => ?_)
 ·
  obtain ⟨q, c, r, rfl⟩ := fo_cons (g := g) (blk := blk) (by assumption)
  simp only [Fo.roots, List.map_cons] at hw
  obtain ⟨ok1, ok2, ok3⟩ := hok
  simp only [Fo.all, List.length_cons, List.length_append] at hgl
  have hq := hlt q (by simp [Fo.all])
  have hb_q := kn_blk (blk := blk) (T := T) (kv := kv) (kH := kH) (i := q) hq
  obtain ⟨qa, qc, hqv⟩ := kn_form hk hq
  have hvq := kn_view2 hk hq
  rw [hqv] at hvq hb_q
  rw [ok1] at hvq hb_q
  have hlc := roots_len c
  have hlr := roots_len r
  have hvw := hw.view
  obtain ⟨b, o, cap, cc, T0, f, hv1, hbv, hr⟩ := hvw.open (by simp)
  cases hv1
  have hny := pts_nth (i := 0) hr rfl
  have hpt := hvw.part (i := 1) (j := ((Fo.roots r).map blk).length + 1) (by omega) (by simp)
  have et : (((blk q) :: (Fo.roots r).map blk).drop 1).take (((Fo.roots r).map blk).length + 1 - 1) = (Fo.roots r).map blk := List.take_of_length_le (by simp)
  rw [et] at hpt
  have hcap : ((Fo.roots r).map blk).length + 1 ≤ wc := by obtain ⟨_, _, _, e, h, _⟩ := hvw; cases e; simpa using h
  have hm1 : ((Fo.roots c).map blk).length = (Fo.roots c).length := List.length_map ..
  have hm2 : ((Fo.roots r).map blk).length = (Fo.roots r).length := List.length_map ..
  refine Wp.skip ?_
  refine Ends.seq ?_
  refine Wp.block ?_
  refine Wp.seq ?_
  refine Wp.region ?_
  refine Ops.pv (pv_move rfl) rfl ?_
  refine Ops.pv (pv_indexAddr (i := 0) rfl rfl rfl (by simp [Fo.roots])) rfl ?_
  refine Ops.pv (pv_load rfl rfl hny) rfl ?_
  refine Ops.pv (pv_assign rfl) rfl ?_
  refine Ops.nil ?_
  refine Ends.seq ?_
  refine Wp.seq ?_
  refine Wp.region ?_
  refine Ops.pv (pv_move rfl) rfl ?_
  refine Ops.pv (pv_move rfl) rfl ?_
  refine Ops.pv (pv_nilCheck rfl) rfl ?_
  refine Ops.pv (pv_fieldAddr0 rfl rfl) rfl ?_
  refine Ops.pv (pv_loadK [_, _] rfl rfl rfl ⟨rfl, rfl, trivial⟩) rfl ?_
  refine Ops.ef rfl (ef_buildSlice1 (k := 2) rfl rfl rfl rfl rfl) ?_
  rintro _ _ ⟨b2, rfl, rfl⟩
  refine Ops.ef rfl (ef_append (H := K) (xs := slotCells (T.sl q)) rfl hu rfl ⟨rfl, rfl, trivial⟩ rfl rfl rfl (by omega) (by omega) rfl rfl) ?_
  rintro _ _ ⟨u1, K1, hu1, rfl, rfl⟩
  refine Ops.app ?_
  refine Ops.pv (pv_assign rfl) rfl ?_
  refine Ops.nil ?_
  refine Ends.seq ?_
  refine AnyH.start (J ++ (segs (knS blk T kv kH) T.n)) 9 rfl ?_
  refine Tk 0 rfl rfl (pv_move rfl) rfl ?_
  refine Tk 1 rfl rfl (pv_nilCheck rfl) rfl ?_
  refine Tk 2 rfl rfl (pv_fieldAddr0 rfl rfl) rfl ?_
  refine Tk 3 rfl rfl (pv_load rfl rfl rfl) rfl ?_
  refine Tk 4 rfl rfl (pv_move rfl) rfl ?_
  refine Tk 5 rfl rfl (pv_sliceL (i := 1) (j := ((Fo.roots r).map blk).length + 1) (r := ((Fo.roots r).map blk).length) rfl ⟨_, rfl⟩ rfl (by omega) hcap (by omega)) rfl ?_
  refine AnyH.one 6 (by kernel_rfl) ?_
  refine Turn.ef rfl rfl (ef_buildSlice2 rfl rfl rfl rfl rfl rfl) ?_ ?_
  ·
   rintro _ _ ⟨b3, rfl, rfl⟩; infer_instance
  rintro _ _ ⟨b3, rfl, rfl⟩
  refine AnyH.one 7 (by kernel_rfl) ?_
  refine Turn.ef rfl rfl (ef_call (tr_concat2 (J ++ (segs (knS blk T kv kH) T.n)) b3 2 _ _ _ _ ((Fo.roots c).map blk) ((Fo.roots r).map blk) (hvq.mono (by intro p hp; exact List.mem_append_right _ hp)) (hpt.mono (by intro p hp; exact List.mem_append_left _ hp)) (by rw [List.length_append]; omega)) rfl rfl) ?_ ?_
  ·
   rintro _ _ ⟨_, _, ⟨J2, hJ2, rfl⟩, rfl, rfl⟩; infer_instance
  rintro _ _ ⟨_, _, ⟨J2, hJ2, rfl⟩, rfl, rfl⟩
  refine AnyH.app ?_
  obtain ⟨xa1, xc1, rfl⟩ := hJ2.form
  refine Tk 8 rfl rfl (pv_assign rfl) rfl ?_
  refine AnyH.done (by kernel_rfl) ?_
  refine Ends.block_normal ?_
  refine Ends.goes ?_
  refine Goes.back (hK (u1, K1, _, J2, dn ++ [T.sl q], Fo.app c r) ⟨?_, ?_, Fo.OkK.app ok2 ok3, ?_, ?_, ?_⟩ (by dsimp only; rw [Fo.all_app]; simp only [Fo.all, List.length_cons, List.length_append]; omega)) ⟨rfl, rfl, trivial⟩
  ·
   dsimp only; rw [List.length_append, slotsCells_app]; exact hu1
  ·
   dsimp only; rw [Fo.roots_app, List.map_append]; exact hJ2
  ·
   intro z hz; dsimp only at hz; rw [Fo.all_app] at hz; exact hlt z (by simp only [Fo.all, List.mem_cons]; exact .inr hz)
  ·
   dsimp only; rw [← htot, Fo.all_app]; simp [Fo.all]
  dsimp only; rw [Fo.all_app, List.length_append, List.length_append]; simp; omega
 refine Wp.exit ?_
 refine Ends.then_exit ?_
 refine Ends.then_exit ?_
 refine Ends.block_hit ?_
 refine Ends.seq ?_
 refine Wp.seq ?_
 refine Wp.region ?_
 refine Ops.pv (pv_move rfl) rfl ?_
 refine Ops.pv (pv_assign rfl) rfl ?_
 refine Ops.nil ?_
 refine Ends.seq ?_
 refine Wp.ret ?_
 obtain rfl := fo_nil (g := g) (blk := blk) (by assumption)
 simp only [Fo.all, List.map_nil, List.append_nil] at htot
 rw [← htot]
 exact Ends.ret (L' := K ++ (trBlk tb mb :: mpBlk mb blk T.M clk :: segs (knS blk T kv kH) T.n)) (res1 rfl rfl) ⟨K, hu, rfl⟩
theorem tr_tadd_has (tb : Nat) (L : Hp) (T : TreeM) (hH : TrH T tb L) (s : SlotM) (v0 : Value) (i : Nat) (h : tget s T.M = some i) : Tr Try.prog 70 [.pointer (some ⟨tb, 0, none⟩), slotV s, v0] (L) (fun u L' => u = .int .i64 4 ∧ TrH T tb L') := by
 obtain ⟨mb, clk, blk, kv, kH, hk, rfl⟩ := hH
 refine Tr.enter Try.func70 rfl Try.ntmps70 rfl (fun W F => ?_)
 refine Wp.app ?_
 refine Wp.seq ?_
 refine Wp.region ?_
 refine Ops.ef rfl (ef_boxK rfl rfl) ?_
 rintro _ _ ⟨b1, rfl, rfl⟩
 refine Ops.pv (pv_assign rfl) rfl ?_
 refine Ops.nil ?_
 refine Ends.seq ?_
 refine Wp.seq ?_
 refine Wp.seq ?_
 refine Wp.region ?_
 refine Ops.pv (pv_move rfl) rfl ?_
 refine Ops.pv (pv_loadK [_, _] rfl rfl rfl ⟨rfl, rfl, trivial⟩) rfl ?_
 refine Ops.ef rfl (ef_callr ((tr_tHas tb _ T ⟨mb, clk, blk, kv, kH, hk, rfl⟩ s).eq (r' := .bool true) (by simp [h])) rfl rfl) ?_
 rintro _ _ ⟨rfl, rfl⟩
 refine Ops.nil ?_
 refine Ends.seq ?_
 refine Wp.cond_true rfl ?_
 refine Wp.seq ?_
 refine Wp.region ?_
 refine Ops.pv (pv_assign rfl) rfl ?_
 refine Ops.nil ?_
 refine Ends.seq ?_
 refine Wp.ret ?_
 refine Ends.then_ret ?_
 exact Ends.ret (L' := trBlk tb mb :: mpBlk mb blk T.M clk :: segs (knS blk T kv kH) T.n) (res1 rfl rfl) ⟨rfl, mb, clk, blk, kv, kH, hk, rfl⟩
theorem tr_tadd_root (tb : Nat) (L : Hp) (T : TreeM) (hH : TrH T tb L) (hx : T.Ix) (s : SlotM) (h : tget s T.M = none) : Tr Try.prog 70 [.pointer (some ⟨tb, 0, none⟩), slotV s, .pointer none] (L) (fun u L' => u = .int .i64 0 ∧ ∃ t, TrH (T.more s none t) tb L') := by
 obtain ⟨mb, clk, blk, kv, kH, hk, rfl⟩ := hH
 refine Tr.enter Try.func70 rfl Try.ntmps70 rfl (fun W F => ?_)
 refine Wp.app ?_
 refine Wp.seq ?_
 refine Wp.region ?_
 refine Ops.ef rfl (ef_boxK rfl rfl) ?_
 rintro _ _ ⟨b1, rfl, rfl⟩
 refine Ops.pv (pv_assign rfl) rfl ?_
 refine Ops.nil ?_
 refine Ends.seq ?_
 refine Wp.seq ?_
 refine Wp.seq ?_
 refine Wp.region ?_
 refine Ops.pv (pv_move rfl) rfl ?_
 refine Ops.pv (pv_loadK [_, _] rfl rfl rfl ⟨rfl, rfl, trivial⟩) rfl ?_
 refine Ops.ef rfl (ef_callr ((tr_tHas tb _ T ⟨mb, clk, blk, kv, kH, hk, rfl⟩ s).eq (r' := .bool false) (by simp [h])) rfl rfl) ?_
 rintro _ _ ⟨rfl, rfl⟩
 refine Ops.nil ?_
 refine Ends.seq ?_
 refine Wp.cond_false rfl ?_
 refine Wp.skip ?_
 refine Ends.seq ?_
 refine Wp.seq ?_
 refine Wp.region ?_
 refine Ops.pv (pv_loadK [_, _] rfl rfl rfl ⟨rfl, rfl, trivial⟩) rfl ?_
 refine Ops.pv (pv_move rfl) rfl ?_
 refine Ops.pv (pv_build rfl) rfl ?_
 refine Ops.ef rfl (ef_boxK rfl rfl) ?_
 rintro _ _ ⟨b2, rfl, rfl⟩
 refine Ops.pv (pv_assign rfl) rfl ?_
 refine Ops.nil ?_
 refine Ends.seq ?_
 refine Wp.seq ?_
 refine AnyH.start ((b1, .cells [.int .i64 s.1, .int .i64 s.2].toArray 38) :: trBlk tb mb :: []) 7 rfl ?_
 refine Tk 0 rfl rfl (pv_move rfl) rfl ?_
 refine Tk 1 rfl rfl (pv_nilCheck rfl) rfl ?_
 refine Tk 2 rfl rfl (pv_fieldAddr0 rfl rfl) rfl ?_
 refine Tk 3 rfl rfl (pv_load rfl rfl rfl) rfl ?_
 refine Tk 4 rfl rfl (pv_loadK [_, _] rfl rfl rfl ⟨rfl, rfl, trivial⟩) rfl ?_
 refine Tk 5 rfl rfl (pv_move rfl) rfl ?_
 refine AnyH.one 6 (by kernel_rfl) ?_
 refine Turn.ef rfl rfl (ef_mapUpdate_s _ rfl rfl rfl) ?_ ?_
 ·
  rintro _ _ ⟨rfl, rfl⟩; infer_instance
 rintro _ _ ⟨rfl, rfl⟩
 refine AnyH.done (by kernel_rfl) ?_
 refine Ends.seq ?_
 refine Wp.seq ?_
 refine Wp.seq ?_
 refine Wp.region ?_
 refine Ops.pv (pv_move rfl) rfl ?_
 refine Ops.pv (pv_neq_nil rfl rfl) rfl ?_
 refine Ops.nil ?_
 refine Ends.seq ?_
 refine Wp.cond_false rfl ?_
 refine Wp.skip ?_
 refine Ends.seq ?_
 refine Wp.seq ?_
 refine Wp.region ?_
 refine Ops.pv (pv_assign rfl) rfl ?_
 refine Ops.nil ?_
 refine Ends.seq ?_
 refine Wp.ret ?_
 rw [tput_new h, tclk_new h]
 refine Ends.heap (L' := trBlk tb mb :: (mb, mapO encS (kvT blk T.M ++ [(s, .pointer (some ⟨b2, 0, none⟩), clk)]) (clk + 1)) :: ((segs (knS blk T kv kH) T.n ++ [(b2, .cells [.int .i64 s.1, .int .i64 s.2, .pointer none, .slice none 0 0].toArray 113)]) ++ F)) (fun w ho => ?_) ?_
 ·
  have h2 : Own W w (trBlk tb mb :: (mb, mapO encS (kvT blk T.M ++ [(s, .pointer (some ⟨b2, 0, none⟩), clk)]) (clk + 1)) :: (segs (knS blk T kv kH) T.n ++ ((b2, .cells [.int .i64 s.1, .int .i64 s.2, .pointer none, .slice none 0 0].toArray 113) :: F))) := Drop.own ho
  rw [List.append_assoc]; exact h2
 rw [← more_root hx (t := clk), ← more_kvT hx]
 exact Ends.ret (L' := trBlk tb mb :: (mb, mapO encS (kvT (fset blk T.n b2) (T.M ++ [(s, T.n, clk)])) (clk + 1)) :: segs (knS (fset blk T.n b2) (T.more s none clk) (fset kv T.n (.slice none 0 0)) (fset kH T.n [])) (T.n + 1)) (res1 rfl rfl) ⟨rfl, clk, mb, clk + 1, fset blk T.n b2, _, _, more_root_ok hx hk, rfl⟩
theorem tr_tadd_child (tb mb clk : Nat) (blk : Nat → Nat) (T : TreeM) (kv : Nat → Value) (kH : Nat → Hp) (hk : kidsOk blk T kv kH) (hx : T.Ix) (hn : T.n ≤ 2 ^ 20) (s : SlotM) (j : Nat) (hj : j < T.n) (h : tget s T.M = none) : Tr Try.prog 70 [.pointer (some ⟨tb, 0, none⟩), slotV s, .pointer (some ⟨blk j, 0, none⟩)] (trBlk tb mb :: mpBlk mb blk T.M clk :: segs (knS blk T kv kH) T.n) (fun u L' => u = .int .i64 0 ∧ ∃ t, TrH (T.more s (some j) t) tb L') := by
 have hkj := hk j hj
 have hsm := hx.small j hj
 refine Tr.enter Try.func70 rfl Try.ntmps70 rfl (fun W F => ?_)
 refine Wp.app ?_
 refine Wp.seq ?_
 refine Wp.region ?_
 refine Ops.ef rfl (ef_boxK rfl rfl) ?_
 rintro _ _ ⟨b1, rfl, rfl⟩
 refine Ops.pv (pv_assign rfl) rfl ?_
 refine Ops.nil ?_
 refine Ends.seq ?_
 refine Wp.seq ?_
 refine Wp.seq ?_
 refine Wp.region ?_
 refine Ops.pv (pv_move rfl) rfl ?_
 refine Ops.pv (pv_loadK [_, _] rfl rfl rfl ⟨rfl, rfl, trivial⟩) rfl ?_
 refine Ops.ef rfl (ef_callr ((tr_tHas tb _ T ⟨mb, clk, blk, kv, kH, hk, rfl⟩ s).eq (r' := .bool false) (by simp [h])) rfl rfl) ?_
 rintro _ _ ⟨rfl, rfl⟩
 refine Ops.nil ?_
 refine Ends.seq ?_
 refine Wp.cond_false rfl ?_
 refine Wp.skip ?_
 refine Ends.seq ?_
 refine Wp.seq ?_
 refine Wp.region ?_
 refine Ops.pv (pv_loadK [_, _] rfl rfl rfl ⟨rfl, rfl, trivial⟩) rfl ?_
 refine Ops.pv (pv_move rfl) rfl ?_
 refine Ops.pv (pv_build rfl) rfl ?_
 refine Ops.ef rfl (ef_boxK rfl rfl) ?_
 rintro _ _ ⟨b2, rfl, rfl⟩
 refine Ops.pv (pv_assign rfl) rfl ?_
 refine Ops.nil ?_
 refine Ends.seq ?_
 refine Wp.seq ?_
 refine AnyH.start ((b1, .cells [.int .i64 s.1, .int .i64 s.2].toArray 38) :: trBlk tb mb :: []) 7 rfl ?_
 refine Tk 0 rfl rfl (pv_move rfl) rfl ?_
 refine Tk 1 rfl rfl (pv_nilCheck rfl) rfl ?_
 refine Tk 2 rfl rfl (pv_fieldAddr0 rfl rfl) rfl ?_
 refine Tk 3 rfl rfl (pv_load rfl rfl rfl) rfl ?_
 refine Tk 4 rfl rfl (pv_loadK [_, _] rfl rfl rfl ⟨rfl, rfl, trivial⟩) rfl ?_
 refine Tk 5 rfl rfl (pv_move rfl) rfl ?_
 refine AnyH.one 6 (by kernel_rfl) ?_
 refine Turn.ef rfl rfl (ef_mapUpdate_s _ rfl rfl rfl) ?_ ?_
 ·
  rintro _ _ ⟨rfl, rfl⟩; infer_instance
 rintro _ _ ⟨rfl, rfl⟩
 refine AnyH.done (by kernel_rfl) ?_
 refine Ends.seq ?_
 refine Wp.seq ?_
 refine Wp.seq ?_
 refine Wp.region ?_
 refine Ops.pv (pv_move rfl) rfl ?_
 refine Ops.pv (pv_neq_nil rfl rfl) rfl ?_
 refine Ops.nil ?_
 refine Ends.seq ?_
 refine Wp.cond_true rfl ?_
 refine Wp.region ?_
 rw [tput_new h, tclk_new h]
 refine Ops.openS (knS blk T kv kH) T.n j hj ?_
 dsimp only [knS, List.cons_append]
 refine Ops.pv (pv_move rfl) rfl ?_
 refine Ops.pv (pv_move rfl) rfl ?_
 refine Ops.pv (pv_nilCheck rfl) rfl ?_
 refine Ops.pv (pv_fieldAddr0 rfl rfl) rfl ?_
 refine Ops.pv (pv_load rfl rfl rfl) rfl ?_
 refine Ops.pv (pv_move rfl) rfl ?_
 refine Ops.ef rfl (ef_buildSlice1 (k := 1) rfl rfl rfl rfl rfl) ?_
 rintro _ _ ⟨b3, rfl, rfl⟩
 refine Ops.ef rfl (ef_append (H := kH j) (xs := [.pointer (some ⟨b2, 0, none⟩)]) rfl hkj rfl ⟨rfl, trivial⟩ rfl rfl rfl (by omega) (by omega) rfl rfl) ?_
 rintro _ _ ⟨u1, H1, hu1, rfl, rfl⟩
 refine Ops.app ?_
 have ho1 := hu1.one
 have ho2 := hu1.cells1
 refine Ops.pv (pv_nilCheck rfl) rfl ?_
 refine Ops.pv (pv_fieldAddr0 rfl rfl) rfl ?_
 refine Ops.ef rfl (ef_store1 rfl rfl (by first | rfl | assumption) (by first | rfl | assumption)) ?_
 rintro _ _ ⟨rfl, rfl⟩
 refine Ops.nil ?_
 refine Ends.seq ?_
 refine Wp.seq ?_
 refine Wp.region ?_
 refine Ops.pv (pv_assign rfl) rfl ?_
 refine Ops.nil ?_
 refine Ends.seq ?_
 refine Wp.ret ?_
 refine Ends.closeS (knS blk T kv kH) T.n j ((blk j, .cells [.int .i64 (T.sl j).1, .int .i64 (T.sl j).2, ptrO blk (T.par j), u1].toArray 113) :: H1) hj ?_
 refine Ends.heap (L' := trBlk tb mb :: (mb, mapO encS (kvT blk T.M ++ [(s, .pointer (some ⟨b2, 0, none⟩), clk)]) (clk + 1)) :: ((segs (fset (knS blk T kv kH) j ((blk j, .cells [.int .i64 (T.sl j).1, .int .i64 (T.sl j).2, ptrO blk (T.par j), u1].toArray 113) :: H1)) T.n ++ [(b2, .cells [.int .i64 s.1, .int .i64 s.2, .pointer (some ⟨blk j, 0, none⟩), .slice none 0 0].toArray 113)]) ++ F)) (fun w ho => ?_) ?_
 ·
  have h2 : Own W w (trBlk tb mb :: (mb, mapO encS (kvT blk T.M ++ [(s, .pointer (some ⟨b2, 0, none⟩), clk)]) (clk + 1)) :: (segs (fset (knS blk T kv kH) j ((blk j, .cells [.int .i64 (T.sl j).1, .int .i64 (T.sl j).2, ptrO blk (T.par j), u1].toArray 113) :: H1)) T.n ++ ((b2, .cells [.int .i64 s.1, .int .i64 s.2, .pointer (some ⟨blk j, 0, none⟩), .slice none 0 0].toArray 113) :: F))) := Drop.own ho
  rw [List.append_assoc]; exact h2
 rw [← more_child hx (t := clk) hj, ← more_kvT hx]
 exact Ends.ret (L' := trBlk tb mb :: (mb, mapO encS (kvT (fset blk T.n b2) (T.M ++ [(s, T.n, clk)])) (clk + 1)) :: segs (knS (fset blk T.n b2) (T.more s (some j) clk) (fset (fset kv T.n (.slice none 0 0)) j u1) (fset (fset kH T.n []) j H1)) (T.n + 1)) (res1 rfl rfl) ⟨rfl, clk, mb, clk + 1, fset blk T.n b2, _, _, more_child_ok hx hk hj hu1, rfl⟩
theorem tr_taddR (tb : Nat) (L : Hp) (T : TreeM) (hH : TrH T tb L) (hx : T.Ix) (s : SlotM) : Tr Try.prog 70 [.pointer (some ⟨tb, 0, none⟩), slotV s, .pointer none] L (fun u L' => ∃ e T', u = .int .i64 e ∧ TAdd T s none e T' ∧ TrH T' tb L') := by
 cases h : tget s T.M with
 | none => exact (tr_tadd_root tb L T hH hx s h).mono fun u L' ⟨hu, t, hl⟩ => ⟨0, _, hu, .inr ⟨h, rfl, t, rfl⟩, hl⟩
 | some i => exact (tr_tadd_has tb L T hH s (.pointer none) i h).mono fun u L' ⟨hu, hl⟩ => ⟨4, T, hu, .inl ⟨i, h, rfl, rfl⟩, hl⟩
theorem tr_taddC (tb mb clk : Nat) (blk : Nat → Nat) (T : TreeM) (kv : Nat → Value) (kH : Nat → Hp) (hk : kidsOk blk T kv kH) (hx : T.Ix) (hn : T.n ≤ 2 ^ 20) (s : SlotM) (j : Nat) (hj : j < T.n) :
    Tr Try.prog 70 [.pointer (some ⟨tb, 0, none⟩), slotV s, .pointer (some ⟨blk j, 0, none⟩)] (trBlk tb mb :: mpBlk mb blk T.M clk :: segs (knS blk T kv kH) T.n) (fun u L' => ∃ e T', u = .int .i64 e ∧ TAdd T s (some j) e T' ∧ TrH T' tb L') := by
  cases h : tget s T.M with
  | none => exact (tr_tadd_child tb mb clk blk T kv kH hk hx hn s j hj h).mono fun u L' ⟨hu, t, hl⟩ => ⟨0, _, hu, .inr ⟨h, rfl, t, rfl⟩, hl⟩
  | some i => exact (tr_tadd_has tb _ T ⟨mb, clk, blk, kv, kH, hk, rfl⟩ s (.pointer (some ⟨blk j, 0, none⟩)) i h).mono fun u L' ⟨hu, hl⟩ => ⟨4, T, hu, .inl ⟨i, h, rfl, rfl⟩, hl⟩
theorem tr_tRoot (tb : Nat) (L : Hp) (T : TreeM) (hH : TrH T tb L) (hx : T.Ix) (s : SlotM) : Tr Try.prog 46 [.pointer (some ⟨tb, 0, none⟩), slotV s] (L) (fun u L' => ∃ e T', u = .int .i64 e ∧ TAdd T s none e T' ∧ TrH T' tb L') := by
 refine Tr.enter Try.func46 rfl Try.ntmps46 rfl (fun W F => ?_)
 refine Wp.app ?_
 refine Wp.seq ?_
 refine Wp.region ?_
 refine Ops.ef rfl (ef_boxK rfl rfl) ?_
 rintro _ _ ⟨b1, rfl, rfl⟩
 refine Ops.pv (pv_assign rfl) rfl ?_
 refine Ops.nil ?_
 refine Ends.seq ?_
 refine Wp.seq ?_
 refine Wp.region ?_
 refine Ops.pv (pv_move rfl) rfl ?_
 refine Ops.pv (pv_loadK [_, _] rfl rfl rfl ⟨rfl, rfl, trivial⟩) rfl ?_
 refine Ops.ef rfl (ef_call (tr_taddR tb L T hH hx s) rfl rfl) ?_
 rintro _ _ ⟨_, Q1, ⟨e1, T1, rfl, ha1, hH1⟩, rfl, rfl⟩
 refine Ops.app ?_
 skip
 refine Ops.pv (pv_assign rfl) rfl ?_
 refine Ops.nil ?_
 refine Ends.seq ?_
 refine Wp.ret ?_
 exact Ends.ret (L' := Q1) (res1 rfl rfl) ⟨e1, T1, rfl, ha1, hH1⟩
theorem tr_tChild0 (tb : Nat) (L : Hp) (T : TreeM) (hH : TrH T tb L) (o s : SlotM) (h : tget o T.M = none) : Tr Try.prog 55 [.pointer (some ⟨tb, 0, none⟩), slotV o, slotV s] (L) (fun u L' => u = .int .i64 3 ∧ TrH T tb L') := by
 obtain ⟨mb, clk, blk, kv, kH, hk, rfl⟩ := hH
 have hm := tptr_hm blk T.M o
 rw [tptr_no h] at hm
 refine Tr.enter Try.func55 rfl Try.ntmps55 rfl (fun W F => ?_)
 refine Wp.app ?_
 refine Wp.seq ?_
 refine Wp.region ?_
 refine Ops.ef rfl (ef_boxK rfl rfl) ?_
 rintro _ _ ⟨b1, rfl, rfl⟩
 refine Ops.ef rfl (ef_boxK rfl rfl) ?_
 rintro _ _ ⟨b2, rfl, rfl⟩
 refine Ops.pv (pv_assign rfl) rfl ?_
 refine Ops.nil ?_
 refine Ends.seq ?_
 refine Wp.seq ?_
 refine AnyH.start ((b1, .cells [.int .i64 o.1, .int .i64 o.2].toArray 38) :: trBlk tb mb :: mpBlk mb blk T.M clk :: segs (knS blk T kv kH) T.n) 7 rfl ?_
 refine Tk 0 rfl rfl (pv_move rfl) rfl ?_
 refine Tk 1 rfl rfl (pv_nilCheck rfl) rfl ?_
 refine Tk 2 rfl rfl (pv_fieldAddr0 rfl rfl) rfl ?_
 refine Tk 3 rfl rfl (pv_load rfl rfl rfl) rfl ?_
 refine Tk 4 rfl rfl (pv_loadK [_, _] rfl rfl rfl ⟨rfl, rfl, trivial⟩) rfl ?_
 refine Tk 5 rfl rfl (pv_lookup_s o rfl rfl hm) rfl ?_
 refine Tk 6 rfl rfl (pv_assign rfl) rfl ?_
 refine AnyH.done (by kernel_rfl) ?_
 refine Ends.seq ?_
 refine Wp.seq ?_
 refine Wp.seq ?_
 refine Wp.region ?_
 refine Ops.pv (pv_move rfl) rfl ?_
 refine Ops.pv (pv_eql_nil rfl rfl) rfl ?_
 refine Ops.nil ?_
 refine Ends.seq ?_
 refine Wp.cond_true rfl ?_
 refine Wp.seq ?_
 refine Wp.region ?_
 refine Ops.pv (pv_assign rfl) rfl ?_
 refine Ops.nil ?_
 refine Ends.seq ?_
 refine Wp.ret ?_
 refine Ends.then_ret ?_
 exact Ends.ret (L' := trBlk tb mb :: mpBlk mb blk T.M clk :: segs (knS blk T kv kH) T.n) (res1 rfl rfl) ⟨rfl, mb, clk, blk, kv, kH, hk, rfl⟩
theorem tr_tChild1 (tb : Nat) (L : Hp) (T : TreeM) (hH : TrH T tb L) (hx : T.Ix) (hn : T.n ≤ 2 ^ 20) (o s : SlotM) (j : Nat) (h : tget o T.M = some j) : Tr Try.prog 55 [.pointer (some ⟨tb, 0, none⟩), slotV o, slotV s] (L) (fun u L' => ∃ e T', u = .int .i64 e ∧ TAdd T s (some j) e T' ∧ TrH T' tb L') := by
 obtain ⟨mb, clk, blk, kv, kH, hk, rfl⟩ := hH
 have hm := tptr_hm blk T.M o
 rw [tptr_some h] at hm
 have hj := hx.get h
 refine Tr.enter Try.func55 rfl Try.ntmps55 rfl (fun W F => ?_)
 refine Wp.app ?_
 refine Wp.seq ?_
 refine Wp.region ?_
 refine Ops.ef rfl (ef_boxK rfl rfl) ?_
 rintro _ _ ⟨b1, rfl, rfl⟩
 refine Ops.ef rfl (ef_boxK rfl rfl) ?_
 rintro _ _ ⟨b2, rfl, rfl⟩
 refine Ops.pv (pv_assign rfl) rfl ?_
 refine Ops.nil ?_
 refine Ends.seq ?_
 refine Wp.seq ?_
 refine AnyH.start ((b1, .cells [.int .i64 o.1, .int .i64 o.2].toArray 38) :: trBlk tb mb :: mpBlk mb blk T.M clk :: segs (knS blk T kv kH) T.n) 7 rfl ?_
 refine Tk 0 rfl rfl (pv_move rfl) rfl ?_
 refine Tk 1 rfl rfl (pv_nilCheck rfl) rfl ?_
 refine Tk 2 rfl rfl (pv_fieldAddr0 rfl rfl) rfl ?_
 refine Tk 3 rfl rfl (pv_load rfl rfl rfl) rfl ?_
 refine Tk 4 rfl rfl (pv_loadK [_, _] rfl rfl rfl ⟨rfl, rfl, trivial⟩) rfl ?_
 refine Tk 5 rfl rfl (pv_lookup_s o rfl rfl hm) rfl ?_
 refine Tk 6 rfl rfl (pv_assign rfl) rfl ?_
 refine AnyH.done (by kernel_rfl) ?_
 refine Ends.seq ?_
 refine Wp.seq ?_
 refine Wp.seq ?_
 refine Wp.region ?_
 refine Ops.pv (pv_move rfl) rfl ?_
 refine Ops.pv (pv_eql_nil rfl rfl) rfl ?_
 refine Ops.nil ?_
 refine Ends.seq ?_
 refine Wp.cond_false rfl ?_
 refine Wp.skip ?_
 refine Ends.seq ?_
 refine Wp.seq ?_
 refine Wp.region ?_
 refine Ops.pv (pv_move rfl) rfl ?_
 refine Ops.pv (pv_loadK [_, _] rfl rfl rfl ⟨rfl, rfl, trivial⟩) rfl ?_
 refine Ops.pv (pv_move rfl) rfl ?_
 refine Ops.ef rfl (ef_call (tr_taddC tb mb clk blk T kv kH hk hx hn s j hj) rfl rfl) ?_
 rintro _ _ ⟨_, Q1, ⟨e1, T1, rfl, ha1, hH1⟩, rfl, rfl⟩
 refine Ops.app ?_
 skip
 refine Ops.pv (pv_assign rfl) rfl ?_
 refine Ops.nil ?_
 refine Ends.seq ?_
 refine Wp.ret ?_
 exact Ends.ret (L' := Q1) (res1 rfl rfl) ⟨e1, T1, rfl, ha1, hH1⟩
theorem tr_tChild (tb : Nat) (L : Hp) (T : TreeM) (hH : TrH T tb L) (hx : T.Ix) (hn : T.n ≤ 2 ^ 20) (o s : SlotM) : Tr Try.prog 55 [.pointer (some ⟨tb, 0, none⟩), slotV o, slotV s] L (fun u L' => ∃ e T', u = .int .i64 e ∧ TChild T o s e T' ∧ TrH T' tb L') := by
 cases h : tget o T.M with
 | none => exact (tr_tChild0 tb L T hH o s h).mono fun u L' ⟨hu, hl⟩ => ⟨3, T, hu, .inl ⟨h, rfl, rfl⟩, hl⟩
 | some j => exact (tr_tChild1 tb L T hH hx hn o s j h).mono fun u L' ⟨e, T', hu, ha, hl⟩ => ⟨e, T', hu, .inr ⟨j, h, ha⟩, hl⟩
end Go.Proofs.Ytdodfnjmkpgdbaa
end
section
set_option linter.unusedVariables false
set_option linter.unusedSimpArgs false
namespace Go.Proofs.Ytdodfnjmkpgdbaa
open Go.SL
theorem tr_tDrop0 (tb : Nat) (L : Hp) (T : TreeM) (hH : TrH T tb L) (s : SlotM) (h : tget s T.M = none) : Tr Try.prog 57 [.pointer (some ⟨tb, 0, none⟩), slotV s] (L) (fun u L' => u = .int .i64 3 ∧ TrH T tb L') := by
 obtain ⟨mb, clk, blk, kv, kH, hk, rfl⟩ := hH
 have hm := tptr_hm blk T.M s
 rw [tptr_no h] at hm
 refine Tr.enter Try.func57 rfl Try.ntmps57 rfl (fun W F => ?_)
 refine Wp.app ?_
 refine Wp.seq ?_
 refine Wp.region ?_
 refine Ops.ef rfl (ef_boxK rfl rfl) ?_
 rintro _ _ ⟨b1, rfl, rfl⟩
 refine Ops.pv (pv_assign rfl) rfl ?_
 refine Ops.nil ?_
 refine Ends.seq ?_
 refine Wp.seq ?_
 refine AnyH.start ((b1, .cells [.int .i64 s.1, .int .i64 s.2].toArray 38) :: trBlk tb mb :: mpBlk mb blk T.M clk :: segs (knS blk T kv kH) T.n) 7 rfl ?_
 refine Tk 0 rfl rfl (pv_move rfl) rfl ?_
 refine Tk 1 rfl rfl (pv_nilCheck rfl) rfl ?_
 refine Tk 2 rfl rfl (pv_fieldAddr0 rfl rfl) rfl ?_
 refine Tk 3 rfl rfl (pv_load rfl rfl rfl) rfl ?_
 refine Tk 4 rfl rfl (pv_loadK [_, _] rfl rfl rfl ⟨rfl, rfl, trivial⟩) rfl ?_
 refine Tk 5 rfl rfl (pv_lookup_s s rfl rfl hm) rfl ?_
 refine Tk 6 rfl rfl (pv_assign rfl) rfl ?_
 refine AnyH.done (by kernel_rfl) ?_
 refine Ends.seq ?_
 refine Wp.seq ?_
 refine Wp.seq ?_
 refine Wp.region ?_
 refine Ops.pv (pv_move rfl) rfl ?_
 refine Ops.pv (pv_eql_nil rfl rfl) rfl ?_
 refine Ops.nil ?_
 refine Ends.seq ?_
 refine Wp.cond_true rfl ?_
 refine Wp.seq ?_
 refine Wp.region ?_
 refine Ops.pv (pv_assign rfl) rfl ?_
 refine Ops.nil ?_
 refine Ends.seq ?_
 refine Wp.ret ?_
 refine Ends.then_ret ?_
 exact Ends.ret (L' := trBlk tb mb :: mpBlk mb blk T.M clk :: segs (knS blk T kv kH) T.n) (res1 rfl rfl) ⟨rfl, mb, clk, blk, kv, kH, hk, rfl⟩
set_option maxHeartbeats 1000000 in
theorem tr_tDrop1 (tb : Nat) (L : Hp) (T : TreeM) (hH : TrH T tb L) (hx : T.Ix) (hn : T.n ≤ 2 ^ 20) (so : SlotM) (x : Nat) (h : tget so T.M = some x) (hxk : x ∉ T.kids x) (hp : T.par x = none) : Tr Try.prog 57 [.pointer (some ⟨tb, 0, none⟩), slotV so] (L) (fun u L' => u = .int .i64 0 ∧ TrH (T.gone so x) tb L') := by
 obtain ⟨mb, clk, blk, kv, kH, hk, rfl⟩ := hH
 have hm := tptr_hm blk T.M so
 rw [tptr_some h] at hm
 have hi := hx.get h
 obtain ⟨ka, kc, hkv⟩ := kn_form hk hi
 have hb_x := kn_blk (blk := blk) (T := T) (kv := kv) (kH := kH) (i := x) hi
 rw [hkv, hp] at hb_x
 have hlm : ((T.kids x).map blk).length = (T.kids x).length := List.length_map ..
 have hsx := hx.small x hi
 refine Tr.enter Try.func57 rfl Try.ntmps57 rfl (fun W F => ?_)
 refine Wp.app ?_
 refine Wp.seq ?_
 refine Wp.region ?_
 refine Ops.ef rfl (ef_boxK rfl rfl) ?_
 rintro _ _ ⟨b1, rfl, rfl⟩
 refine Ops.pv (pv_assign rfl) rfl ?_
 refine Ops.nil ?_
 refine Ends.seq ?_
 refine Wp.seq ?_
 refine AnyH.start ((b1, .cells [.int .i64 so.1, .int .i64 so.2].toArray 38) :: trBlk tb mb :: mpBlk mb blk T.M clk :: segs (knS blk T kv kH) T.n) 7 rfl ?_
 refine Tk 0 rfl rfl (pv_move rfl) rfl ?_
 refine Tk 1 rfl rfl (pv_nilCheck rfl) rfl ?_
 refine Tk 2 rfl rfl (pv_fieldAddr0 rfl rfl) rfl ?_
 refine Tk 3 rfl rfl (pv_load rfl rfl rfl) rfl ?_
 refine Tk 4 rfl rfl (pv_loadK [_, _] rfl rfl rfl ⟨rfl, rfl, trivial⟩) rfl ?_
 refine Tk 5 rfl rfl (pv_lookup_s so rfl rfl hm) rfl ?_
 refine Tk 6 rfl rfl (pv_assign rfl) rfl ?_
 refine AnyH.done (by kernel_rfl) ?_
 refine Ends.seq ?_
 refine Wp.seq ?_
 refine Wp.seq ?_
 refine Wp.region ?_
 refine Ops.pv (pv_move rfl) rfl ?_
 refine Ops.pv (pv_eql_nil rfl rfl) rfl ?_
 refine Ops.nil ?_
 refine Ends.seq ?_
 refine Wp.cond_false rfl ?_
 refine Wp.skip ?_
 refine Ends.seq ?_
 refine Wp.seq ?_
 refine Wp.seq ?_
 refine Wp.region ?_
 refine Ops.pv (pv_move rfl) rfl ?_
 refine Ops.pv (pv_nilCheck rfl) rfl ?_
 refine Ops.pv (pv_fieldAddr0 rfl rfl) rfl ?_
 refine Ops.pv (pv_load rfl rfl rfl) rfl ?_
 refine Ops.pv (pv_len_slice (T := 110) rfl rfl) rfl ?_
 refine Ops.pv (pv_move rfl) rfl ?_
 refine Ops.nil ?_
 refine Ends.seq ?_
 refine Wp.block ?_
 refine Wp.loopK (σ := Nat) [(0, _), (3, _), (5, _), (21, _), (22, _)] (fun s => [(23, .int .i64 s)]) (fun s => (b1, .cells [.int .i64 so.1, .int .i64 so.2].toArray 38) :: trBlk tb mb :: mpBlk mb blk T.M clk :: (segs (knS blk (T.dropK x s) kv kH) T.n ++ F)) (fun s => s ≤ (T.kids x).length) (fun s => (T.kids x).length - s) 0 (Nat.zero_le _) ⟨rfl, rfl, rfl, rfl, rfl, trivial⟩ ⟨rfl, trivial⟩ (by intro w ho; rw [dropK_zero]; exact Drop.own ho) ?_
 rintro k KK hkl hK
 dsimp only [List.cons_append, List.nil_append] at hK ⊢
 refine Wp.seq ?_
 refine Wp.region ?_
 refine Ops.pv (pv_lss rfl rfl) rfl ?_
 refine Ops.nil ?_
 refine Ends.seq ?_
 refine Wp.seq ?_
 refine Wp.cond_dect rfl (fun h1 => ?_) (fun h1 => ?_)
 ·
  clear hb_x
  have hv2 : View (segs (knS blk (T.dropK x k) kv kH) T.n) 1 (kv x) ((T.kids x).map blk).length (ptsC ((T.kids x).map blk)) := kn_view2 (T := T.dropK x k) (kv := kv) (kH := kH) (i := x) hk hi
  rw [hkv] at hv2
  obtain ⟨b, o, cap, cc, T0, f, hv1, hbv, hr⟩ := hv2.open (by show 0 < ((T.kids x).map blk).length; omega)
  cases hv1
  obtain ⟨q, hq⟩ : ∃ q, (T.kids x)[k]? = some q := ⟨_, List.getElem?_eq_getElem (by omega)⟩
  have hbq : ((T.kids x).map blk)[k]? = some (blk q) := by rw [List.getElem?_map, hq]; rfl
  have hqn := hx.kids x q hi (List.mem_of_getElem? hq)
  have hb_x : Blk (segs (knS blk (T.dropK x k) kv kH) T.n) (blk x) (.cells [.int .i64 (T.sl x).1, .int .i64 (T.sl x).2, ptrO blk ((T.dropK x k).par x), kv x].toArray 113 (0, 0)) := kn_blk (blk := blk) (T := T.dropK x k) (kv := kv) (kH := kH) (i := x) hi
  rw [dropK_par hxk, hp] at hb_x
  have hb_q : Blk (segs (knS blk (T.dropK x k) kv kH) T.n) (blk q) (.cells [.int .i64 (T.sl q).1, .int .i64 (T.sl q).2, ptrO blk ((T.dropK x k).par q), kv q].toArray 113 (0, 0)) := kn_blk (blk := blk) (T := T.dropK x k) (kv := kv) (kH := kH) (i := q) hqn
  have hupd := fun o1 => segs_upd (h := knS blk (T.dropK x k) kv kH) (o' := o1) hqn rfl
  have hds := dropK_succ (blk := blk) (kv := kv) (kH := kH) hq
  rw [hp] at hds
  refine Wp.skip ?_
  refine Ends.seq ?_
  refine Wp.seq ?_
  refine Wp.block ?_
  refine Wp.seq ?_
  refine Wp.region ?_
  refine Ops.pv (pv_indexAddr (i := k) rfl rfl rfl (by omega)) rfl ?_
  refine Ops.pv (pv_load rfl rfl (pts_nth hr hbq)) rfl ?_
  refine Ops.pv (pv_assign rfl) rfl ?_
  refine Ops.nil ?_
  refine Ends.seq ?_
  refine Wp.region ?_
  refine Ops.pv (pv_move rfl) rfl ?_
  refine Ops.pv (pv_move rfl) rfl ?_
  refine Ops.pv (pv_nilCheck rfl) rfl ?_
  refine Ops.pv (pv_fieldAddr0 rfl rfl) rfl ?_
  refine Ops.pv (pv_load rfl rfl rfl) rfl ?_
  refine Ops.pv (pv_nilCheck rfl) rfl ?_
  refine Ops.pv (pv_fieldAddr0 rfl rfl) rfl ?_
  refine Ops.ef rfl (ef_store1 rfl rfl (by first | rfl | assumption) (by first | rfl | assumption)) ?_
  rintro _ _ ⟨rfl, rfl⟩
  refine Ops.nil ?_
  refine Ends.block_normal ?_
  refine Ends.seq ?_
  refine Wp.region ?_
  refine Ops.pv (pv_add rfl rfl (w64 (by omega) (by omega))) rfl ?_
  refine Ops.pv (pv_move rfl) rfl ?_
  refine Ops.nil ?_
  refine Ends.goes ?_
  rw [hds]
  refine Goes.back (hK (k + 1) (by omega) (by omega)) ⟨rfl, rfl, rfl, rfl, rfl, rfl, trivial⟩
 clear hb_x
 obtain rfl : k = (T.kids x).length := by omega
 have hb_x : Blk (segs (knS blk (T.dropK x (T.kids x).length) kv kH) T.n) (blk x) (.cells [.int .i64 (T.sl x).1, .int .i64 (T.sl x).2, ptrO blk ((T.dropK x (T.kids x).length).par x), kv x].toArray 113 (0, 0)) := kn_blk (blk := blk) (T := T.dropK x (T.kids x).length) (kv := kv) (kH := kH) (i := x) hi
 rw [dropK_par hxk, hp, hkv] at hb_x
 refine Wp.exit ?_
 refine Ends.then_exit ?_
 refine Ends.then_exit ?_
 refine Ends.block_hit ?_
 refine Ends.seq ?_
 refine Wp.seq ?_
 refine Wp.seq ?_
 refine Wp.region ?_
 refine Ops.pv (pv_move rfl) rfl ?_
 refine Ops.pv (pv_nilCheck rfl) rfl ?_
 refine Ops.pv (pv_fieldAddr0 rfl rfl) rfl ?_
 refine Ops.pv (pv_load rfl rfl rfl) rfl ?_
 refine Ops.pv (pv_assign rfl) rfl ?_
 refine Ops.nil ?_
 refine Ends.seq ?_
 refine Wp.seq ?_
 refine Wp.region ?_
 refine Ops.pv (pv_move rfl) rfl ?_
 refine Ops.pv (pv_neq_nil rfl rfl) rfl ?_
 refine Ops.nil ?_
 refine Ends.seq ?_
 refine Wp.cond_false rfl ?_
 refine Wp.skip ?_
 refine Ends.seq ?_
 refine Wp.seq ?_
 refine AnyH.start ((b1, .cells [.int .i64 so.1, .int .i64 so.2].toArray 38) :: trBlk tb mb :: []) 6 rfl ?_
 refine Tk 0 rfl rfl (pv_move rfl) rfl ?_
 refine Tk 1 rfl rfl (pv_nilCheck rfl) rfl ?_
 refine Tk 2 rfl rfl (pv_fieldAddr0 rfl rfl) rfl ?_
 refine Tk 3 rfl rfl (pv_load rfl rfl rfl) rfl ?_
 refine Tk 4 rfl rfl (pv_loadK [_, _] rfl rfl rfl ⟨rfl, rfl, trivial⟩) rfl ?_
 refine AnyH.one 5 (by kernel_rfl) ?_
 refine Turn.ef rfl rfl (ef_deleten_s (T := 105) _ rfl rfl rfl) ?_ ?_
 ·
  rintro _ _ ⟨rfl, rfl⟩; infer_instance
 rintro _ _ ⟨rfl, rfl⟩
 refine AnyH.done (by kernel_rfl) ?_
 refine Ends.seq ?_
 refine Wp.seq ?_
 refine Wp.region ?_
 refine Ops.pv (pv_assign rfl) rfl ?_
 refine Ops.nil ?_
 refine Ends.seq ?_
 refine Wp.ret ?_
 rw [gone_none (s := so) hp, tdel_kvT]
 exact Ends.ret (L' := trBlk tb mb :: mpBlk mb blk (tdel so T.M) clk :: segs (knS blk (T.gone so x) kv kH) T.n) (res1 rfl rfl) ⟨rfl, mb, clk, blk, kv, kH, gone_none_ok hp hk, rfl⟩
set_option maxHeartbeats 1000000 in
theorem tr_tDrop2 (tb : Nat) (L : Hp) (T : TreeM) (hH : TrH T tb L) (hx : T.Ix) (hn : T.n ≤ 2 ^ 20) (so : SlotM) (x : Nat) (h : tget so T.M = some x) (hxk : x ∉ T.kids x) (j : Nat) (hp : T.par x = some j) (hxj : x ∈ T.kids j) : Tr Try.prog 57 [.pointer (some ⟨tb, 0, none⟩), slotV so] (L) (fun u L' => u = .int .i64 0 ∧ TrH (T.gone so x) tb L') := by
 obtain ⟨mb, clk, blk, kv, kH, hk, rfl⟩ := hH
 have hm := tptr_hm blk T.M so
 rw [tptr_some h] at hm
 have hi := hx.get h
 obtain ⟨ka, kc, hkv⟩ := kn_form hk hi
 have hb_x := kn_blk (blk := blk) (T := T) (kv := kv) (kH := kH) (i := x) hi
 rw [hkv, hp] at hb_x
 have hlm : ((T.kids x).map blk).length = (T.kids x).length := List.length_map ..
 have hsx := hx.small x hi
 have hj := hx.par x j hi hp
 obtain ⟨ja, jc, hjv⟩ := kn_form hk hj
 obtain ⟨p, hp1, hp2, hp3⟩ := repl_at (l := T.kids x) hxj
 have hpl := (List.getElem?_eq_some_iff.1 hp2).1
 have hsj := hx.small j hj
 have hlj : ((T.kids j).map blk).length = (T.kids j).length := List.length_map ..
 refine Tr.enter Try.func57 rfl Try.ntmps57 rfl (fun W F => ?_)
 refine Wp.app ?_
 refine Wp.seq ?_
 refine Wp.region ?_
 refine Ops.ef rfl (ef_boxK rfl rfl) ?_
 rintro _ _ ⟨b1, rfl, rfl⟩
 refine Ops.pv (pv_assign rfl) rfl ?_
 refine Ops.nil ?_
 refine Ends.seq ?_
 refine Wp.seq ?_
 refine AnyH.start ((b1, .cells [.int .i64 so.1, .int .i64 so.2].toArray 38) :: trBlk tb mb :: mpBlk mb blk T.M clk :: segs (knS blk T kv kH) T.n) 7 rfl ?_
 refine Tk 0 rfl rfl (pv_move rfl) rfl ?_
 refine Tk 1 rfl rfl (pv_nilCheck rfl) rfl ?_
 refine Tk 2 rfl rfl (pv_fieldAddr0 rfl rfl) rfl ?_
 refine Tk 3 rfl rfl (pv_load rfl rfl rfl) rfl ?_
 refine Tk 4 rfl rfl (pv_loadK [_, _] rfl rfl rfl ⟨rfl, rfl, trivial⟩) rfl ?_
 refine Tk 5 rfl rfl (pv_lookup_s so rfl rfl hm) rfl ?_
 refine Tk 6 rfl rfl (pv_assign rfl) rfl ?_
 refine AnyH.done (by kernel_rfl) ?_
 refine Ends.seq ?_
 refine Wp.seq ?_
 refine Wp.seq ?_
 refine Wp.region ?_
 refine Ops.pv (pv_move rfl) rfl ?_
 refine Ops.pv (pv_eql_nil rfl rfl) rfl ?_
 refine Ops.nil ?_
 refine Ends.seq ?_
 refine Wp.cond_false rfl ?_
 refine Wp.skip ?_
 refine Ends.seq ?_
 refine Wp.seq ?_
 refine Wp.seq ?_
 refine Wp.region ?_
 refine Ops.pv (pv_move rfl) rfl ?_
 refine Ops.pv (pv_nilCheck rfl) rfl ?_
 refine Ops.pv (pv_fieldAddr0 rfl rfl) rfl ?_
 refine Ops.pv (pv_load rfl rfl rfl) rfl ?_
 refine Ops.pv (pv_len_slice (T := 110) rfl rfl) rfl ?_
 refine Ops.pv (pv_move rfl) rfl ?_
 refine Ops.nil ?_
 refine Ends.seq ?_
 refine Wp.block ?_
 refine Wp.loopK (σ := Nat) [(0, _), (3, _), (5, _), (21, _), (22, _)] (fun s => [(23, .int .i64 s)]) (fun s => (b1, .cells [.int .i64 so.1, .int .i64 so.2].toArray 38) :: trBlk tb mb :: mpBlk mb blk T.M clk :: (segs (knS blk (T.dropK x s) kv kH) T.n ++ F)) (fun s => s ≤ (T.kids x).length) (fun s => (T.kids x).length - s) 0 (Nat.zero_le _) ⟨rfl, rfl, rfl, rfl, rfl, trivial⟩ ⟨rfl, trivial⟩ (by intro w ho; rw [dropK_zero]; exact Drop.own ho) ?_
 rintro k KK hkl hK
 dsimp only [List.cons_append, List.nil_append] at hK ⊢
 refine Wp.seq ?_
 refine Wp.region ?_
 refine Ops.pv (pv_lss rfl rfl) rfl ?_
 refine Ops.nil ?_
 refine Ends.seq ?_
 refine Wp.seq ?_
 refine Wp.cond_dect rfl (fun h1 => ?_) (fun h1 => ?_)
 ·
  clear hb_x
  have hv2 : View (segs (knS blk (T.dropK x k) kv kH) T.n) 1 (kv x) ((T.kids x).map blk).length (ptsC ((T.kids x).map blk)) := kn_view2 (T := T.dropK x k) (kv := kv) (kH := kH) (i := x) hk hi
  rw [hkv] at hv2
  obtain ⟨b, o, cap, cc, T0, f, hv1, hbv, hr⟩ := hv2.open (by show 0 < ((T.kids x).map blk).length; omega)
  cases hv1
  obtain ⟨q, hq⟩ : ∃ q, (T.kids x)[k]? = some q := ⟨_, List.getElem?_eq_getElem (by omega)⟩
  have hbq : ((T.kids x).map blk)[k]? = some (blk q) := by rw [List.getElem?_map, hq]; rfl
  have hqn := hx.kids x q hi (List.mem_of_getElem? hq)
  have hb_x : Blk (segs (knS blk (T.dropK x k) kv kH) T.n) (blk x) (.cells [.int .i64 (T.sl x).1, .int .i64 (T.sl x).2, ptrO blk ((T.dropK x k).par x), kv x].toArray 113 (0, 0)) := kn_blk (blk := blk) (T := T.dropK x k) (kv := kv) (kH := kH) (i := x) hi
  rw [dropK_par hxk, hp] at hb_x
  have hb_q : Blk (segs (knS blk (T.dropK x k) kv kH) T.n) (blk q) (.cells [.int .i64 (T.sl q).1, .int .i64 (T.sl q).2, ptrO blk ((T.dropK x k).par q), kv q].toArray 113 (0, 0)) := kn_blk (blk := blk) (T := T.dropK x k) (kv := kv) (kH := kH) (i := q) hqn
  have hupd := fun o1 => segs_upd (h := knS blk (T.dropK x k) kv kH) (o' := o1) hqn rfl
  have hds := dropK_succ (blk := blk) (kv := kv) (kH := kH) hq
  rw [hp] at hds
  refine Wp.skip ?_
  refine Ends.seq ?_
  refine Wp.seq ?_
  refine Wp.block ?_
  refine Wp.seq ?_
  refine Wp.region ?_
  refine Ops.pv (pv_indexAddr (i := k) rfl rfl rfl (by omega)) rfl ?_
  refine Ops.pv (pv_load rfl rfl (pts_nth hr hbq)) rfl ?_
  refine Ops.pv (pv_assign rfl) rfl ?_
  refine Ops.nil ?_
  refine Ends.seq ?_
  refine Wp.region ?_
  refine Ops.pv (pv_move rfl) rfl ?_
  refine Ops.pv (pv_move rfl) rfl ?_
  refine Ops.pv (pv_nilCheck rfl) rfl ?_
  refine Ops.pv (pv_fieldAddr0 rfl rfl) rfl ?_
  refine Ops.pv (pv_load rfl rfl rfl) rfl ?_
  refine Ops.pv (pv_nilCheck rfl) rfl ?_
  refine Ops.pv (pv_fieldAddr0 rfl rfl) rfl ?_
  refine Ops.ef rfl (ef_store1 rfl rfl (by first | rfl | assumption) (by first | rfl | assumption)) ?_
  rintro _ _ ⟨rfl, rfl⟩
  refine Ops.nil ?_
  refine Ends.block_normal ?_
  refine Ends.seq ?_
  refine Wp.region ?_
  refine Ops.pv (pv_add rfl rfl (w64 (by omega) (by omega))) rfl ?_
  refine Ops.pv (pv_move rfl) rfl ?_
  refine Ops.nil ?_
  refine Ends.goes ?_
  rw [hds]
  refine Goes.back (hK (k + 1) (by omega) (by omega)) ⟨rfl, rfl, rfl, rfl, rfl, rfl, trivial⟩
 clear hb_x
 obtain rfl : k = (T.kids x).length := by omega
 have hb_x : Blk (segs (knS blk (T.dropK x (T.kids x).length) kv kH) T.n) (blk x) (.cells [.int .i64 (T.sl x).1, .int .i64 (T.sl x).2, ptrO blk ((T.dropK x (T.kids x).length).par x), kv x].toArray 113 (0, 0)) := kn_blk (blk := blk) (T := T.dropK x (T.kids x).length) (kv := kv) (kH := kH) (i := x) hi
 rw [dropK_par hxk, hp, hkv] at hb_x
 have hb_j : Blk (segs (knS blk (T.dropK x (T.kids x).length) kv kH) T.n) (blk j) (.cells [.int .i64 (T.sl j).1, .int .i64 (T.sl j).2, ptrO blk ((T.dropK x (T.kids x).length).par j), kv j].toArray 113 (0, 0)) := kn_blk (blk := blk) (T := T.dropK x (T.kids x).length) (kv := kv) (kH := kH) (i := j) hj
 rw [hjv] at hb_j
 have hvj : View (segs (knS blk (T.dropK x (T.kids x).length) kv kH) T.n) 1 (kv j) ((T.kids j).map blk).length (ptsC ((T.kids j).map blk)) := kn_view2 (T := T.dropK x (T.kids x).length) (kv := kv) (kH := kH) (i := j) hk hj
 rw [hjv] at hvj
 have hvx : View (segs (knS blk (T.dropK x (T.kids x).length) kv kH) T.n) 1 (kv x) ((T.kids x).map blk).length (ptsC ((T.kids x).map blk)) := kn_view2 (T := T.dropK x (T.kids x).length) (kv := kv) (kH := kH) (i := x) hk hi
 rw [hkv] at hvx
 have hA := View.part (f := ptrE) (l := (T.kids j).map blk) hvj (i := 0) (j := p) (Nat.zero_le _) (by omega)
 have hB := View.part (f := ptrE) (l := (T.kids j).map blk) hvj (i := p + 1) (j := ((T.kids j).map blk).length) (by omega) (Nat.le_refl _)
 have eA : (((T.kids j).map blk).drop 0).take (p - 0) = ((T.kids j).map blk).take p := by simp
 have eB : (((T.kids j).map blk).drop (p + 1)).take (((T.kids j).map blk).length - (p + 1)) = ((T.kids j).map blk).drop (p + 1) := List.take_of_length_le (by simp)
 rw [eA] at hA
 rw [eB] at hB
 have lA : (((T.kids j).map blk).take p).length = p := by rw [List.length_take]; omega
 have lB : (((T.kids j).map blk).drop (p + 1)).length = ((T.kids j).map blk).length - (p + 1) := List.length_drop ..
 have hjc : ((T.kids j).map blk).length ≤ jc := by obtain ⟨_, _, _, e, h, _⟩ := hvj; cases e; exact h
 refine Wp.exit ?_
 refine Ends.then_exit ?_
 refine Ends.then_exit ?_
 refine Ends.block_hit ?_
 refine Ends.seq ?_
 refine Wp.seq ?_
 refine Wp.seq ?_
 refine Wp.region ?_
 refine Ops.pv (pv_move rfl) rfl ?_
 refine Ops.pv (pv_nilCheck rfl) rfl ?_
 refine Ops.pv (pv_fieldAddr0 rfl rfl) rfl ?_
 refine Ops.pv (pv_load rfl rfl rfl) rfl ?_
 refine Ops.pv (pv_assign rfl) rfl ?_
 refine Ops.nil ?_
 refine Ends.seq ?_
 refine Wp.seq ?_
 refine Wp.region ?_
 refine Ops.pv (pv_move rfl) rfl ?_
 refine Ops.pv (pv_neq_nil rfl rfl) rfl ?_
 refine Ops.nil ?_
 refine Ends.seq ?_
 refine Wp.cond_true rfl ?_
 refine Wp.seq ?_
 refine Wp.region ?_
 refine Ops.ndD (segs (knS blk (T.dropK x (T.kids x).length) kv kH) T.n) fun hnd => ?_
 have hinj := segs_inj (fun i => rfl) hnd
 clear hnd
 have hupd2 := fun o1 => segs_upd (h := knS blk (T.dropK x (T.kids x).length) kv kH) (o' := o1) hj rfl
 refine Ops.pv (pv_move rfl) rfl ?_
 refine Ops.pv (pv_nilCheck rfl) rfl ?_
 refine Ops.pv (pv_fieldAddr0 rfl rfl) rfl ?_
 refine Ops.pv (pv_load rfl rfl rfl) rfl ?_
 refine Ops.pv (pv_move rfl) rfl ?_
 refine Ops.ef rfl (ef_callr ((tr_index (segs (knS blk (T.dropK x (T.kids x).length) kv kH) T.n) ja jc ((T.kids j).map blk) (blk x) hvj (by omega) (fun b hb => by obtain ⟨a, ha, rfl⟩ := List.mem_map.1 hb; exact kn_isC (hx.kids j a hj ha)) (kn_isC hi)).eq (r' := .int .i64 p) (by rw [idxN_map blk (fun a ha e => hinj a x (hx.kids j a hj ha) hi e), hp1])) rfl rfl) ?_
 rintro _ _ ⟨rfl, rfl⟩
 refine Ops.pv (pv_assign rfl) rfl ?_
 refine Ops.nil ?_
 refine Ends.seq ?_
 refine AnyH.start ([] : Hp) 23 rfl ?_
 refine Tk 0 rfl rfl (pv_move rfl) rfl ?_
 refine Tk 1 rfl rfl (pv_move rfl) rfl ?_
 refine Tk 2 rfl rfl (pv_nilCheck rfl) rfl ?_
 refine Tk 3 rfl rfl (pv_fieldAddr0 rfl rfl) rfl ?_
 refine Tk 5 rfl rfl (pv_move rfl) rfl ?_
 refine Tk 7 rfl rfl (pv_move rfl) rfl ?_
 refine Tk 8 rfl rfl (pv_nilCheck rfl) rfl ?_
 refine Tk 9 rfl rfl (pv_fieldAddr0 rfl rfl) rfl ?_
 refine Tk 11 rfl rfl (pv_move rfl) rfl ?_
 refine Tk 12 rfl rfl (pv_nilCheck rfl) rfl ?_
 refine Tk 13 rfl rfl (pv_fieldAddr0 rfl rfl) rfl ?_
 refine Tk 15 rfl rfl (pv_move rfl) rfl ?_
 refine Tk 16 rfl rfl (pv_add rfl rfl (w64n (k := p + 1) (by omega) (by omega))) rfl ?_
 refine AnyH.three 4 10 14 (by kernel_rfl) ?_ ?_ ?_
 ·
  refine Turn.ef rfl rfl (ef_pv (pv_load rfl rfl rfl) rfl) ?_ ?_
  ·
   rintro _ _ ⟨rfl, rfl⟩; infer_instance
  rintro _ _ ⟨rfl, rfl⟩
  refine Tk 6 rfl rfl (pv_sliceL (i := 0) (j := p) (r := (((T.kids j).map blk).take p).length) rfl rfl ⟨_, rfl⟩ (Nat.zero_le _) (by omega) lA.symm) rfl ?_
  refine AnyH.two 10 14 (by kernel_rfl) ?_ ?_
  ·
   refine Turn.ef rfl rfl (ef_pv (pv_load rfl rfl rfl) rfl) ?_ ?_
   ·
    rintro _ _ ⟨rfl, rfl⟩; infer_instance
   rintro _ _ ⟨rfl, rfl⟩
   refine AnyH.one 14 (by kernel_rfl) ?_
   refine Turn.ef rfl rfl (ef_pv (pv_load rfl rfl rfl) rfl) ?_ ?_
   ·
    rintro _ _ ⟨rfl, rfl⟩; infer_instance
   rintro _ _ ⟨rfl, rfl⟩
   refine Tk 17 rfl rfl (pv_sliceL (i := p + 1) (j := ((T.kids j).map blk).length) (r := (((T.kids j).map blk).drop (p + 1)).length) rfl ⟨_, rfl⟩ rfl (by omega) hjc lB.symm) rfl ?_
   refine AnyH.one 18 (by kernel_rfl) ?_
   refine Turn.ef rfl rfl (ef_buildSliceN [.slice none 0 0, .slice none 0 0, .slice none 0 0] [(0, 1), (1, 1), (2, 1)] rfl (by kernel_rfl) (by first | decide | rfl) rfl rfl rfl) ?_ ?_
   ·
    rintro _ _ ⟨b2, rfl, rfl⟩; infer_instance
   rintro _ _ ⟨b2, rfl, rfl⟩
   refine AnyH.one 19 (by kernel_rfl) ?_
   refine Turn.ef rfl rfl (ef_call (tr_concat3 (segs (knS blk (T.dropK x (T.kids x).length) kv kH) T.n) b2 3 _ _ _ _ _ _ (((T.kids j).map blk).take p) ((T.kids x).map blk) (((T.kids j).map blk).drop (p + 1)) hA hvx hB (by simp only [List.length_append]; omega)) rfl rfl) ?_ ?_
   ·
    rintro _ _ ⟨_, _, ⟨K1, hu1, rfl⟩, rfl, rfl⟩; infer_instance
   rintro _ _ ⟨_, _, ⟨K1, hu1, rfl⟩, rfl, rfl⟩
   refine AnyH.app ?_
   rename_i u1
   have ho1 := hu1.one
   have ho2 := hu1.cells1
   refine Tk 20 rfl rfl (pv_nilCheck rfl) rfl ?_
   refine Tk 21 rfl rfl (pv_fieldAddr0 rfl rfl) rfl ?_
   refine AnyH.one 22 (by kernel_rfl) ?_
   refine Turn.ef rfl rfl (ef_store1 rfl rfl (by first | rfl | assumption) (by first | rfl | assumption)) ?_ ?_
   ·
    rintro _ _ ⟨rfl, rfl⟩; infer_instance
   rintro _ _ ⟨rfl, rfl⟩
   refine AnyH.done (by kernel_rfl) ?_
   refine Ends.seq ?_
   refine Wp.seq ?_
   refine AnyH.start ((b1, .cells [.int .i64 so.1, .int .i64 so.2].toArray 38) :: trBlk tb mb :: []) 6 rfl ?_
   refine Tk 0 rfl rfl (pv_move rfl) rfl ?_
   refine Tk 1 rfl rfl (pv_nilCheck rfl) rfl ?_
   refine Tk 2 rfl rfl (pv_fieldAddr0 rfl rfl) rfl ?_
   refine Tk 3 rfl rfl (pv_load rfl rfl rfl) rfl ?_
   refine Tk 4 rfl rfl (pv_loadK [_, _] rfl rfl rfl ⟨rfl, rfl, trivial⟩) rfl ?_
   refine AnyH.one 5 (by kernel_rfl) ?_
   refine Turn.ef rfl rfl (ef_deleten_s (T := 105) _ rfl rfl rfl) ?_ ?_
   ·
    rintro _ _ ⟨rfl, rfl⟩; infer_instance
   rintro _ _ ⟨rfl, rfl⟩
   refine AnyH.done (by kernel_rfl) ?_
   refine Ends.seq ?_
   refine Wp.seq ?_
   refine Wp.region ?_
   refine Ops.pv (pv_assign rfl) rfl ?_
   refine Ops.nil ?_
   refine Ends.seq ?_
   refine Wp.ret ?_
   rw [tdel_kvT]
   refine Ends.heap (L' := trBlk tb mb :: mpBlk mb blk (tdel so T.M) clk :: (segs (fset (knS blk (T.dropK x (T.kids x).length) kv kH) j ((blk j, .cells [.int .i64 (T.sl j).1, .int .i64 (T.sl j).2, ptrO blk ((T.dropK x (T.kids x).length).par j), u1].toArray 113) :: K1)) T.n ++ F)) (fun w ho => ?_) ?_
   ·
    have h2 : Own W w (K1 ++ (segs (fset (knS blk (T.dropK x (T.kids x).length) kv kH) j ((blk j, .cells [.int .i64 (T.sl j).1, .int .i64 (T.sl j).2, ptrO blk ((T.dropK x (T.kids x).length).par j), u1].toArray 113) :: kH j)) T.n ++ (trBlk tb mb :: mpBlk mb blk (tdel so T.M) clk :: F))) := Drop.own ho
    have h3 := Own.swapSeg hj h2
    exact (Drop.own h3 : Own W w (trBlk tb mb :: mpBlk mb blk (tdel so T.M) clk :: (segs (fset (knS blk (T.dropK x (T.kids x).length) kv kH) j ((blk j, .cells [.int .i64 (T.sl j).1, .int .i64 (T.sl j).2, ptrO blk ((T.dropK x (T.kids x).length).par j), u1].toArray 113) :: K1)) T.n ++ F)))
   rw [gone_some (s := so) hp]
   exact Ends.ret (L' := trBlk tb mb :: mpBlk mb blk (tdel so T.M) clk :: segs (knS blk (T.gone so x) (fset kv j u1) (fset kH j K1)) T.n) (res1 rfl rfl) ⟨rfl, mb, clk, blk, _, _, gone_some_ok hp hk (by rw [hp3, ← List.length_map (f := blk), List.map_append, List.map_append, List.map_take, List.map_drop]; exact hu1), rfl⟩
  refine Turn.ef rfl rfl (ef_pv (pv_load rfl rfl rfl) rfl) ?_ ?_
  ·
   rintro _ _ ⟨rfl, rfl⟩; infer_instance
  rintro _ _ ⟨rfl, rfl⟩
  refine Tk 17 rfl rfl (pv_sliceL (i := p + 1) (j := ((T.kids j).map blk).length) (r := (((T.kids j).map blk).drop (p + 1)).length) rfl ⟨_, rfl⟩ rfl (by omega) hjc lB.symm) rfl ?_
  refine AnyH.one 10 (by kernel_rfl) ?_
  refine Turn.ef rfl rfl (ef_pv (pv_load rfl rfl rfl) rfl) ?_ ?_
  ·
   rintro _ _ ⟨rfl, rfl⟩; infer_instance
  rintro _ _ ⟨rfl, rfl⟩
  refine AnyH.one 18 (by kernel_rfl) ?_
  refine Turn.ef rfl rfl (ef_buildSliceN [.slice none 0 0, .slice none 0 0, .slice none 0 0] [(0, 1), (1, 1), (2, 1)] rfl (by kernel_rfl) (by first | decide | rfl) rfl rfl rfl) ?_ ?_
  ·
   rintro _ _ ⟨b3, rfl, rfl⟩; infer_instance
  rintro _ _ ⟨b3, rfl, rfl⟩
  refine AnyH.one 19 (by kernel_rfl) ?_
  refine Turn.ef rfl rfl (ef_call (tr_concat3 (segs (knS blk (T.dropK x (T.kids x).length) kv kH) T.n) b3 3 _ _ _ _ _ _ (((T.kids j).map blk).take p) ((T.kids x).map blk) (((T.kids j).map blk).drop (p + 1)) hA hvx hB (by simp only [List.length_append]; omega)) rfl rfl) ?_ ?_
  ·
   rintro _ _ ⟨_, _, ⟨K2, hu2, rfl⟩, rfl, rfl⟩; infer_instance
  rintro _ _ ⟨_, _, ⟨K2, hu2, rfl⟩, rfl, rfl⟩
  refine AnyH.app ?_
  rename_i u2
  have ho1 := hu2.one
  have ho2 := hu2.cells1
  refine Tk 20 rfl rfl (pv_nilCheck rfl) rfl ?_
  refine Tk 21 rfl rfl (pv_fieldAddr0 rfl rfl) rfl ?_
  refine AnyH.one 22 (by kernel_rfl) ?_
  refine Turn.ef rfl rfl (ef_store1 rfl rfl (by first | rfl | assumption) (by first | rfl | assumption)) ?_ ?_
  ·
   rintro _ _ ⟨rfl, rfl⟩; infer_instance
  rintro _ _ ⟨rfl, rfl⟩
  refine AnyH.done (by kernel_rfl) ?_
  refine Ends.seq ?_
  refine Wp.seq ?_
  refine AnyH.start ((b1, .cells [.int .i64 so.1, .int .i64 so.2].toArray 38) :: trBlk tb mb :: []) 6 rfl ?_
  refine Tk 0 rfl rfl (pv_move rfl) rfl ?_
  refine Tk 1 rfl rfl (pv_nilCheck rfl) rfl ?_
  refine Tk 2 rfl rfl (pv_fieldAddr0 rfl rfl) rfl ?_
  refine Tk 3 rfl rfl (pv_load rfl rfl rfl) rfl ?_
  refine Tk 4 rfl rfl (pv_loadK [_, _] rfl rfl rfl ⟨rfl, rfl, trivial⟩) rfl ?_
  refine AnyH.one 5 (by kernel_rfl) ?_
  refine Turn.ef rfl rfl (ef_deleten_s (T := 105) _ rfl rfl rfl) ?_ ?_
  ·
   rintro _ _ ⟨rfl, rfl⟩; infer_instance
  rintro _ _ ⟨rfl, rfl⟩
  refine AnyH.done (by kernel_rfl) ?_
  refine Ends.seq ?_
  refine Wp.seq ?_
  refine Wp.region ?_
  refine Ops.pv (pv_assign rfl) rfl ?_
  refine Ops.nil ?_
  refine Ends.seq ?_
  refine Wp.ret ?_
  rw [tdel_kvT]
  refine Ends.heap (L' := trBlk tb mb :: mpBlk mb blk (tdel so T.M) clk :: (segs (fset (knS blk (T.dropK x (T.kids x).length) kv kH) j ((blk j, .cells [.int .i64 (T.sl j).1, .int .i64 (T.sl j).2, ptrO blk ((T.dropK x (T.kids x).length).par j), u2].toArray 113) :: K2)) T.n ++ F)) (fun w ho => ?_) ?_
  ·
   have h2 : Own W w (K2 ++ (segs (fset (knS blk (T.dropK x (T.kids x).length) kv kH) j ((blk j, .cells [.int .i64 (T.sl j).1, .int .i64 (T.sl j).2, ptrO blk ((T.dropK x (T.kids x).length).par j), u2].toArray 113) :: kH j)) T.n ++ (trBlk tb mb :: mpBlk mb blk (tdel so T.M) clk :: F))) := Drop.own ho
   have h3 := Own.swapSeg hj h2
   exact (Drop.own h3 : Own W w (trBlk tb mb :: mpBlk mb blk (tdel so T.M) clk :: (segs (fset (knS blk (T.dropK x (T.kids x).length) kv kH) j ((blk j, .cells [.int .i64 (T.sl j).1, .int .i64 (T.sl j).2, ptrO blk ((T.dropK x (T.kids x).length).par j), u2].toArray 113) :: K2)) T.n ++ F)))
  rw [gone_some (s := so) hp]
  exact Ends.ret (L' := trBlk tb mb :: mpBlk mb blk (tdel so T.M) clk :: segs (knS blk (T.gone so x) (fset kv j u2) (fset kH j K2)) T.n) (res1 rfl rfl) ⟨rfl, mb, clk, blk, _, _, gone_some_ok hp hk (by rw [hp3, ← List.length_map (f := blk), List.map_append, List.map_append, List.map_take, List.map_drop]; exact hu2), rfl⟩
 ·
  refine Turn.ef rfl rfl (ef_pv (pv_load rfl rfl rfl) rfl) ?_ ?_
  ·
   rintro _ _ ⟨rfl, rfl⟩; infer_instance
  rintro _ _ ⟨rfl, rfl⟩
  refine AnyH.two 4 14 (by kernel_rfl) ?_ ?_
  ·
   refine Turn.ef rfl rfl (ef_pv (pv_load rfl rfl rfl) rfl) ?_ ?_
   ·
    rintro _ _ ⟨rfl, rfl⟩; infer_instance
   rintro _ _ ⟨rfl, rfl⟩
   refine Tk 6 rfl rfl (pv_sliceL (i := 0) (j := p) (r := (((T.kids j).map blk).take p).length) rfl rfl ⟨_, rfl⟩ (Nat.zero_le _) (by omega) lA.symm) rfl ?_
   refine AnyH.one 14 (by kernel_rfl) ?_
   refine Turn.ef rfl rfl (ef_pv (pv_load rfl rfl rfl) rfl) ?_ ?_
   ·
    rintro _ _ ⟨rfl, rfl⟩; infer_instance
   rintro _ _ ⟨rfl, rfl⟩
   refine Tk 17 rfl rfl (pv_sliceL (i := p + 1) (j := ((T.kids j).map blk).length) (r := (((T.kids j).map blk).drop (p + 1)).length) rfl ⟨_, rfl⟩ rfl (by omega) hjc lB.symm) rfl ?_
   refine AnyH.one 18 (by kernel_rfl) ?_
   refine Turn.ef rfl rfl (ef_buildSliceN [.slice none 0 0, .slice none 0 0, .slice none 0 0] [(0, 1), (1, 1), (2, 1)] rfl (by kernel_rfl) (by first | decide | rfl) rfl rfl rfl) ?_ ?_
   ·
    rintro _ _ ⟨b4, rfl, rfl⟩; infer_instance
   rintro _ _ ⟨b4, rfl, rfl⟩
   refine AnyH.one 19 (by kernel_rfl) ?_
   refine Turn.ef rfl rfl (ef_call (tr_concat3 (segs (knS blk (T.dropK x (T.kids x).length) kv kH) T.n) b4 3 _ _ _ _ _ _ (((T.kids j).map blk).take p) ((T.kids x).map blk) (((T.kids j).map blk).drop (p + 1)) hA hvx hB (by simp only [List.length_append]; omega)) rfl rfl) ?_ ?_
   ·
    rintro _ _ ⟨_, _, ⟨K3, hu3, rfl⟩, rfl, rfl⟩; infer_instance
   rintro _ _ ⟨_, _, ⟨K3, hu3, rfl⟩, rfl, rfl⟩
   refine AnyH.app ?_
   rename_i u3
   have ho1 := hu3.one
   have ho2 := hu3.cells1
   refine Tk 20 rfl rfl (pv_nilCheck rfl) rfl ?_
   refine Tk 21 rfl rfl (pv_fieldAddr0 rfl rfl) rfl ?_
   refine AnyH.one 22 (by kernel_rfl) ?_
   refine Turn.ef rfl rfl (ef_store1 rfl rfl (by first | rfl | assumption) (by first | rfl | assumption)) ?_ ?_
   ·
    rintro _ _ ⟨rfl, rfl⟩; infer_instance
   rintro _ _ ⟨rfl, rfl⟩
   refine AnyH.done (by kernel_rfl) ?_
   refine Ends.seq ?_
   refine Wp.seq ?_
   refine AnyH.start ((b1, .cells [.int .i64 so.1, .int .i64 so.2].toArray 38) :: trBlk tb mb :: []) 6 rfl ?_
   refine Tk 0 rfl rfl (pv_move rfl) rfl ?_
   refine Tk 1 rfl rfl (pv_nilCheck rfl) rfl ?_
   refine Tk 2 rfl rfl (pv_fieldAddr0 rfl rfl) rfl ?_
   refine Tk 3 rfl rfl (pv_load rfl rfl rfl) rfl ?_
   refine Tk 4 rfl rfl (pv_loadK [_, _] rfl rfl rfl ⟨rfl, rfl, trivial⟩) rfl ?_
   refine AnyH.one 5 (by kernel_rfl) ?_
   refine Turn.ef rfl rfl (ef_deleten_s (T := 105) _ rfl rfl rfl) ?_ ?_
   ·
    rintro _ _ ⟨rfl, rfl⟩; infer_instance
   rintro _ _ ⟨rfl, rfl⟩
   refine AnyH.done (by kernel_rfl) ?_
   refine Ends.seq ?_
   refine Wp.seq ?_
   refine Wp.region ?_
   refine Ops.pv (pv_assign rfl) rfl ?_
   refine Ops.nil ?_
   refine Ends.seq ?_
   refine Wp.ret ?_
   rw [tdel_kvT]
   refine Ends.heap (L' := trBlk tb mb :: mpBlk mb blk (tdel so T.M) clk :: (segs (fset (knS blk (T.dropK x (T.kids x).length) kv kH) j ((blk j, .cells [.int .i64 (T.sl j).1, .int .i64 (T.sl j).2, ptrO blk ((T.dropK x (T.kids x).length).par j), u3].toArray 113) :: K3)) T.n ++ F)) (fun w ho => ?_) ?_
   ·
    have h2 : Own W w (K3 ++ (segs (fset (knS blk (T.dropK x (T.kids x).length) kv kH) j ((blk j, .cells [.int .i64 (T.sl j).1, .int .i64 (T.sl j).2, ptrO blk ((T.dropK x (T.kids x).length).par j), u3].toArray 113) :: kH j)) T.n ++ (trBlk tb mb :: mpBlk mb blk (tdel so T.M) clk :: F))) := Drop.own ho
    have h3 := Own.swapSeg hj h2
    exact (Drop.own h3 : Own W w (trBlk tb mb :: mpBlk mb blk (tdel so T.M) clk :: (segs (fset (knS blk (T.dropK x (T.kids x).length) kv kH) j ((blk j, .cells [.int .i64 (T.sl j).1, .int .i64 (T.sl j).2, ptrO blk ((T.dropK x (T.kids x).length).par j), u3].toArray 113) :: K3)) T.n ++ F)))
   rw [gone_some (s := so) hp]
   exact Ends.ret (L' := trBlk tb mb :: mpBlk mb blk (tdel so T.M) clk :: segs (knS blk (T.gone so x) (fset kv j u3) (fset kH j K3)) T.n) (res1 rfl rfl) ⟨rfl, mb, clk, blk, _, _, gone_some_ok hp hk (by rw [hp3, ← List.length_map (f := blk), List.map_append, List.map_append, List.map_take, List.map_drop]; exact hu3), rfl⟩
  refine Turn.ef rfl rfl (ef_pv (pv_load rfl rfl rfl) rfl) ?_ ?_
  ·
   rintro _ _ ⟨rfl, rfl⟩; infer_instance
  rintro _ _ ⟨rfl, rfl⟩
  refine Tk 17 rfl rfl (pv_sliceL (i := p + 1) (j := ((T.kids j).map blk).length) (r := (((T.kids j).map blk).drop (p + 1)).length) rfl ⟨_, rfl⟩ rfl (by omega) hjc lB.symm) rfl ?_
  refine AnyH.one 4 (by kernel_rfl) ?_
  refine Turn.ef rfl rfl (ef_pv (pv_load rfl rfl rfl) rfl) ?_ ?_
  ·
   rintro _ _ ⟨rfl, rfl⟩; infer_instance
  rintro _ _ ⟨rfl, rfl⟩
  refine Tk 6 rfl rfl (pv_sliceL (i := 0) (j := p) (r := (((T.kids j).map blk).take p).length) rfl rfl ⟨_, rfl⟩ (Nat.zero_le _) (by omega) lA.symm) rfl ?_
  refine AnyH.one 18 (by kernel_rfl) ?_
  refine Turn.ef rfl rfl (ef_buildSliceN [.slice none 0 0, .slice none 0 0, .slice none 0 0] [(0, 1), (1, 1), (2, 1)] rfl (by kernel_rfl) (by first | decide | rfl) rfl rfl rfl) ?_ ?_
  ·
   rintro _ _ ⟨b5, rfl, rfl⟩; infer_instance
  rintro _ _ ⟨b5, rfl, rfl⟩
  refine AnyH.one 19 (by kernel_rfl) ?_
  refine Turn.ef rfl rfl (ef_call (tr_concat3 (segs (knS blk (T.dropK x (T.kids x).length) kv kH) T.n) b5 3 _ _ _ _ _ _ (((T.kids j).map blk).take p) ((T.kids x).map blk) (((T.kids j).map blk).drop (p + 1)) hA hvx hB (by simp only [List.length_append]; omega)) rfl rfl) ?_ ?_
  ·
   rintro _ _ ⟨_, _, ⟨K4, hu4, rfl⟩, rfl, rfl⟩; infer_instance
  rintro _ _ ⟨_, _, ⟨K4, hu4, rfl⟩, rfl, rfl⟩
  refine AnyH.app ?_
  rename_i u4
  have ho1 := hu4.one
  have ho2 := hu4.cells1
  refine Tk 20 rfl rfl (pv_nilCheck rfl) rfl ?_
  refine Tk 21 rfl rfl (pv_fieldAddr0 rfl rfl) rfl ?_
  refine AnyH.one 22 (by kernel_rfl) ?_
  refine Turn.ef rfl rfl (ef_store1 rfl rfl (by first | rfl | assumption) (by first | rfl | assumption)) ?_ ?_
  ·
   rintro _ _ ⟨rfl, rfl⟩; infer_instance
  rintro _ _ ⟨rfl, rfl⟩
  refine AnyH.done (by kernel_rfl) ?_
  refine Ends.seq ?_
  refine Wp.seq ?_
  refine AnyH.start ((b1, .cells [.int .i64 so.1, .int .i64 so.2].toArray 38) :: trBlk tb mb :: []) 6 rfl ?_
  refine Tk 0 rfl rfl (pv_move rfl) rfl ?_
  refine Tk 1 rfl rfl (pv_nilCheck rfl) rfl ?_
  refine Tk 2 rfl rfl (pv_fieldAddr0 rfl rfl) rfl ?_
  refine Tk 3 rfl rfl (pv_load rfl rfl rfl) rfl ?_
  refine Tk 4 rfl rfl (pv_loadK [_, _] rfl rfl rfl ⟨rfl, rfl, trivial⟩) rfl ?_
  refine AnyH.one 5 (by kernel_rfl) ?_
  refine Turn.ef rfl rfl (ef_deleten_s (T := 105) _ rfl rfl rfl) ?_ ?_
  ·
   rintro _ _ ⟨rfl, rfl⟩; infer_instance
  rintro _ _ ⟨rfl, rfl⟩
  refine AnyH.done (by kernel_rfl) ?_
  refine Ends.seq ?_
  refine Wp.seq ?_
  refine Wp.region ?_
  refine Ops.pv (pv_assign rfl) rfl ?_
  refine Ops.nil ?_
  refine Ends.seq ?_
  refine Wp.ret ?_
  rw [tdel_kvT]
  refine Ends.heap (L' := trBlk tb mb :: mpBlk mb blk (tdel so T.M) clk :: (segs (fset (knS blk (T.dropK x (T.kids x).length) kv kH) j ((blk j, .cells [.int .i64 (T.sl j).1, .int .i64 (T.sl j).2, ptrO blk ((T.dropK x (T.kids x).length).par j), u4].toArray 113) :: K4)) T.n ++ F)) (fun w ho => ?_) ?_
  ·
   have h2 : Own W w (K4 ++ (segs (fset (knS blk (T.dropK x (T.kids x).length) kv kH) j ((blk j, .cells [.int .i64 (T.sl j).1, .int .i64 (T.sl j).2, ptrO blk ((T.dropK x (T.kids x).length).par j), u4].toArray 113) :: kH j)) T.n ++ (trBlk tb mb :: mpBlk mb blk (tdel so T.M) clk :: F))) := Drop.own ho
   have h3 := Own.swapSeg hj h2
   exact (Drop.own h3 : Own W w (trBlk tb mb :: mpBlk mb blk (tdel so T.M) clk :: (segs (fset (knS blk (T.dropK x (T.kids x).length) kv kH) j ((blk j, .cells [.int .i64 (T.sl j).1, .int .i64 (T.sl j).2, ptrO blk ((T.dropK x (T.kids x).length).par j), u4].toArray 113) :: K4)) T.n ++ F)))
  rw [gone_some (s := so) hp]
  exact Ends.ret (L' := trBlk tb mb :: mpBlk mb blk (tdel so T.M) clk :: segs (knS blk (T.gone so x) (fset kv j u4) (fset kH j K4)) T.n) (res1 rfl rfl) ⟨rfl, mb, clk, blk, _, _, gone_some_ok hp hk (by rw [hp3, ← List.length_map (f := blk), List.map_append, List.map_append, List.map_take, List.map_drop]; exact hu4), rfl⟩
 refine Turn.ef rfl rfl (ef_pv (pv_load rfl rfl rfl) rfl) ?_ ?_
 ·
  rintro _ _ ⟨rfl, rfl⟩; infer_instance
 rintro _ _ ⟨rfl, rfl⟩
 refine Tk 17 rfl rfl (pv_sliceL (i := p + 1) (j := ((T.kids j).map blk).length) (r := (((T.kids j).map blk).drop (p + 1)).length) rfl ⟨_, rfl⟩ rfl (by omega) hjc lB.symm) rfl ?_
 refine AnyH.two 4 10 (by kernel_rfl) ?_ ?_
 ·
  refine Turn.ef rfl rfl (ef_pv (pv_load rfl rfl rfl) rfl) ?_ ?_
  ·
   rintro _ _ ⟨rfl, rfl⟩; infer_instance
  rintro _ _ ⟨rfl, rfl⟩
  refine Tk 6 rfl rfl (pv_sliceL (i := 0) (j := p) (r := (((T.kids j).map blk).take p).length) rfl rfl ⟨_, rfl⟩ (Nat.zero_le _) (by omega) lA.symm) rfl ?_
  refine AnyH.one 10 (by kernel_rfl) ?_
  refine Turn.ef rfl rfl (ef_pv (pv_load rfl rfl rfl) rfl) ?_ ?_
  ·
   rintro _ _ ⟨rfl, rfl⟩; infer_instance
  rintro _ _ ⟨rfl, rfl⟩
  refine AnyH.one 18 (by kernel_rfl) ?_
  refine Turn.ef rfl rfl (ef_buildSliceN [.slice none 0 0, .slice none 0 0, .slice none 0 0] [(0, 1), (1, 1), (2, 1)] rfl (by kernel_rfl) (by first | decide | rfl) rfl rfl rfl) ?_ ?_
  ·
   rintro _ _ ⟨b6, rfl, rfl⟩; infer_instance
  rintro _ _ ⟨b6, rfl, rfl⟩
  refine AnyH.one 19 (by kernel_rfl) ?_
  refine Turn.ef rfl rfl (ef_call (tr_concat3 (segs (knS blk (T.dropK x (T.kids x).length) kv kH) T.n) b6 3 _ _ _ _ _ _ (((T.kids j).map blk).take p) ((T.kids x).map blk) (((T.kids j).map blk).drop (p + 1)) hA hvx hB (by simp only [List.length_append]; omega)) rfl rfl) ?_ ?_
  ·
   rintro _ _ ⟨_, _, ⟨K5, hu5, rfl⟩, rfl, rfl⟩; infer_instance
  rintro _ _ ⟨_, _, ⟨K5, hu5, rfl⟩, rfl, rfl⟩
  refine AnyH.app ?_
  rename_i u5
  have ho1 := hu5.one
  have ho2 := hu5.cells1
  refine Tk 20 rfl rfl (pv_nilCheck rfl) rfl ?_
  refine Tk 21 rfl rfl (pv_fieldAddr0 rfl rfl) rfl ?_
  refine AnyH.one 22 (by kernel_rfl) ?_
  refine Turn.ef rfl rfl (ef_store1 rfl rfl (by first | rfl | assumption) (by first | rfl | assumption)) ?_ ?_
  ·
   rintro _ _ ⟨rfl, rfl⟩; infer_instance
  rintro _ _ ⟨rfl, rfl⟩
  refine AnyH.done (by kernel_rfl) ?_
  refine Ends.seq ?_
  refine Wp.seq ?_
  refine AnyH.start ((b1, .cells [.int .i64 so.1, .int .i64 so.2].toArray 38) :: trBlk tb mb :: []) 6 rfl ?_
  refine Tk 0 rfl rfl (pv_move rfl) rfl ?_
  refine Tk 1 rfl rfl (pv_nilCheck rfl) rfl ?_
  refine Tk 2 rfl rfl (pv_fieldAddr0 rfl rfl) rfl ?_
  refine Tk 3 rfl rfl (pv_load rfl rfl rfl) rfl ?_
  refine Tk 4 rfl rfl (pv_loadK [_, _] rfl rfl rfl ⟨rfl, rfl, trivial⟩) rfl ?_
  refine AnyH.one 5 (by kernel_rfl) ?_
  refine Turn.ef rfl rfl (ef_deleten_s (T := 105) _ rfl rfl rfl) ?_ ?_
  ·
   rintro _ _ ⟨rfl, rfl⟩; infer_instance
  rintro _ _ ⟨rfl, rfl⟩
  refine AnyH.done (by kernel_rfl) ?_
  refine Ends.seq ?_
  refine Wp.seq ?_
  refine Wp.region ?_
  refine Ops.pv (pv_assign rfl) rfl ?_
  refine Ops.nil ?_
  refine Ends.seq ?_
  refine Wp.ret ?_
  rw [tdel_kvT]
  refine Ends.heap (L' := trBlk tb mb :: mpBlk mb blk (tdel so T.M) clk :: (segs (fset (knS blk (T.dropK x (T.kids x).length) kv kH) j ((blk j, .cells [.int .i64 (T.sl j).1, .int .i64 (T.sl j).2, ptrO blk ((T.dropK x (T.kids x).length).par j), u5].toArray 113) :: K5)) T.n ++ F)) (fun w ho => ?_) ?_
  ·
   have h2 : Own W w (K5 ++ (segs (fset (knS blk (T.dropK x (T.kids x).length) kv kH) j ((blk j, .cells [.int .i64 (T.sl j).1, .int .i64 (T.sl j).2, ptrO blk ((T.dropK x (T.kids x).length).par j), u5].toArray 113) :: kH j)) T.n ++ (trBlk tb mb :: mpBlk mb blk (tdel so T.M) clk :: F))) := Drop.own ho
   have h3 := Own.swapSeg hj h2
   exact (Drop.own h3 : Own W w (trBlk tb mb :: mpBlk mb blk (tdel so T.M) clk :: (segs (fset (knS blk (T.dropK x (T.kids x).length) kv kH) j ((blk j, .cells [.int .i64 (T.sl j).1, .int .i64 (T.sl j).2, ptrO blk ((T.dropK x (T.kids x).length).par j), u5].toArray 113) :: K5)) T.n ++ F)))
  rw [gone_some (s := so) hp]
  exact Ends.ret (L' := trBlk tb mb :: mpBlk mb blk (tdel so T.M) clk :: segs (knS blk (T.gone so x) (fset kv j u5) (fset kH j K5)) T.n) (res1 rfl rfl) ⟨rfl, mb, clk, blk, _, _, gone_some_ok hp hk (by rw [hp3, ← List.length_map (f := blk), List.map_append, List.map_append, List.map_take, List.map_drop]; exact hu5), rfl⟩
 refine Turn.ef rfl rfl (ef_pv (pv_load rfl rfl rfl) rfl) ?_ ?_
 ·
  rintro _ _ ⟨rfl, rfl⟩; infer_instance
 rintro _ _ ⟨rfl, rfl⟩
 refine AnyH.one 4 (by kernel_rfl) ?_
 refine Turn.ef rfl rfl (ef_pv (pv_load rfl rfl rfl) rfl) ?_ ?_
 ·
  rintro _ _ ⟨rfl, rfl⟩; infer_instance
 rintro _ _ ⟨rfl, rfl⟩
 refine Tk 6 rfl rfl (pv_sliceL (i := 0) (j := p) (r := (((T.kids j).map blk).take p).length) rfl rfl ⟨_, rfl⟩ (Nat.zero_le _) (by omega) lA.symm) rfl ?_
 refine AnyH.one 18 (by kernel_rfl) ?_
 refine Turn.ef rfl rfl (ef_buildSliceN [.slice none 0 0, .slice none 0 0, .slice none 0 0] [(0, 1), (1, 1), (2, 1)] rfl (by kernel_rfl) (by first | decide | rfl) rfl rfl rfl) ?_ ?_
 ·
  rintro _ _ ⟨b7, rfl, rfl⟩; infer_instance
 rintro _ _ ⟨b7, rfl, rfl⟩
 refine AnyH.one 19 (by kernel_rfl) ?_
 refine Turn.ef rfl rfl (ef_call (tr_concat3 (segs (knS blk (T.dropK x (T.kids x).length) kv kH) T.n) b7 3 _ _ _ _ _ _ (((T.kids j).map blk).take p) ((T.kids x).map blk) (((T.kids j).map blk).drop (p + 1)) hA hvx hB (by simp only [List.length_append]; omega)) rfl rfl) ?_ ?_
 ·
  rintro _ _ ⟨_, _, ⟨K6, hu6, rfl⟩, rfl, rfl⟩; infer_instance
 rintro _ _ ⟨_, _, ⟨K6, hu6, rfl⟩, rfl, rfl⟩
 refine AnyH.app ?_
 rename_i u6
 have ho1 := hu6.one
 have ho2 := hu6.cells1
 refine Tk 20 rfl rfl (pv_nilCheck rfl) rfl ?_
 refine Tk 21 rfl rfl (pv_fieldAddr0 rfl rfl) rfl ?_
 refine AnyH.one 22 (by kernel_rfl) ?_
 refine Turn.ef rfl rfl (ef_store1 rfl rfl (by first | rfl | assumption) (by first | rfl | assumption)) ?_ ?_
 ·
  rintro _ _ ⟨rfl, rfl⟩; infer_instance
 rintro _ _ ⟨rfl, rfl⟩
 refine AnyH.done (by kernel_rfl) ?_
 refine Ends.seq ?_
 refine Wp.seq ?_
 refine AnyH.start ((b1, .cells [.int .i64 so.1, .int .i64 so.2].toArray 38) :: trBlk tb mb :: []) 6 rfl ?_
 refine Tk 0 rfl rfl (pv_move rfl) rfl ?_
 refine Tk 1 rfl rfl (pv_nilCheck rfl) rfl ?_
 refine Tk 2 rfl rfl (pv_fieldAddr0 rfl rfl) rfl ?_
 refine Tk 3 rfl rfl (pv_load rfl rfl rfl) rfl ?_
 refine Tk 4 rfl rfl (pv_loadK [_, _] rfl rfl rfl ⟨rfl, rfl, trivial⟩) rfl ?_
 refine AnyH.one 5 (by kernel_rfl) ?_
 refine Turn.ef rfl rfl (ef_deleten_s (T := 105) _ rfl rfl rfl) ?_ ?_
 ·
  rintro _ _ ⟨rfl, rfl⟩; infer_instance
 rintro _ _ ⟨rfl, rfl⟩
 refine AnyH.done (by kernel_rfl) ?_
 refine Ends.seq ?_
 refine Wp.seq ?_
 refine Wp.region ?_
 refine Ops.pv (pv_assign rfl) rfl ?_
 refine Ops.nil ?_
 refine Ends.seq ?_
 refine Wp.ret ?_
 rw [tdel_kvT]
 refine Ends.heap (L' := trBlk tb mb :: mpBlk mb blk (tdel so T.M) clk :: (segs (fset (knS blk (T.dropK x (T.kids x).length) kv kH) j ((blk j, .cells [.int .i64 (T.sl j).1, .int .i64 (T.sl j).2, ptrO blk ((T.dropK x (T.kids x).length).par j), u6].toArray 113) :: K6)) T.n ++ F)) (fun w ho => ?_) ?_
 ·
  have h2 : Own W w (K6 ++ (segs (fset (knS blk (T.dropK x (T.kids x).length) kv kH) j ((blk j, .cells [.int .i64 (T.sl j).1, .int .i64 (T.sl j).2, ptrO blk ((T.dropK x (T.kids x).length).par j), u6].toArray 113) :: kH j)) T.n ++ (trBlk tb mb :: mpBlk mb blk (tdel so T.M) clk :: F))) := Drop.own ho
  have h3 := Own.swapSeg hj h2
  exact (Drop.own h3 : Own W w (trBlk tb mb :: mpBlk mb blk (tdel so T.M) clk :: (segs (fset (knS blk (T.dropK x (T.kids x).length) kv kH) j ((blk j, .cells [.int .i64 (T.sl j).1, .int .i64 (T.sl j).2, ptrO blk ((T.dropK x (T.kids x).length).par j), u6].toArray 113) :: K6)) T.n ++ F)))
 rw [gone_some (s := so) hp]
 exact Ends.ret (L' := trBlk tb mb :: mpBlk mb blk (tdel so T.M) clk :: segs (knS blk (T.gone so x) (fset kv j u6) (fset kH j K6)) T.n) (res1 rfl rfl) ⟨rfl, mb, clk, blk, _, _, gone_some_ok hp hk (by rw [hp3, ← List.length_map (f := blk), List.map_append, List.map_append, List.map_take, List.map_drop]; exact hu6), rfl⟩
theorem tr_tDrop (tb : Nat) (L : Hp) (T : TreeM) (hH : TrH T tb L) (hx : T.Ix) (hn : T.n ≤ 2 ^ 20) (s : SlotM) (hxk : ∀ x, tget s T.M = some x → x ∉ T.kids x) (hxj : ∀ x j, tget s T.M = some x → T.par x = some j → x ∈ T.kids j) : Tr Try.prog 57 [.pointer (some ⟨tb, 0, none⟩), slotV s] L (fun u L' => ∃ e T', u = .int .i64 e ∧ TDrop T s e T' ∧ TrH T' tb L') := by
 cases h : tget s T.M with
 | none => exact (tr_tDrop0 tb L T hH s h).mono fun u L' ⟨hu, hl⟩ => ⟨3, T, hu, .inl ⟨h, rfl, rfl⟩, hl⟩
 | some x =>
  cases hp : T.par x with
  | none => exact (tr_tDrop1 tb L T hH hx hn s x h (hxk x h) hp).mono fun u L' ⟨hu, hl⟩ => ⟨0, _, hu, .inr ⟨x, h, rfl, rfl⟩, hl⟩
  | some j => exact (tr_tDrop2 tb L T hH hx hn s x h (hxk x h) j hp (hxj x j h hp)).mono fun u L' ⟨hu, hl⟩ => ⟨0, _, hu, .inr ⟨x, h, rfl, rfl⟩, hl⟩
end Go.Proofs.Ytdodfnjmkpgdbaa
end
section
set_option linter.unusedVariables false
set_option linter.unusedSimpArgs false
set_option linter.unusedSectionVars false
namespace Go.Proofs.Ytdodfnjmkpgdbaa
open Go.SL
abbrev trP (tb : Nat) : Value := .pointer (some ⟨tb, 0, none⟩)
theorem tr_fNew : Tr Try.prog 43 [] [] (fun v L' => ∃ tb, v = trP tb ∧ TrF 0 .nil tb L') :=
  tr_treeNew.mono fun v L' ⟨tb, hv, h⟩ => ⟨tb, hv, _, .nil, tok_new, h, Nat.le_refl _, rfl⟩
theorem TAdd.root {n tb : Nat} {L : Hp} {T T' : TreeM} {G : Fo Nat} (hT : TOk T G) {s : SlotM} {e : Int} (h : TAdd T s none e T') (hL : TrH T' tb L) (hn : T.n ≤ n) : e = (ftRoot (G.map T.sl) s).1 ∧ TrF (n + 1) (ftRoot (G.map T.sl) s).2 tb L := by
 rcases h with ⟨i, h1, rfl, rfl⟩ | ⟨h1, rfl, t, rfl⟩
 ·
  have := hT.in_all.2 ⟨i, h1⟩
  unfold ftRoot; rw [if_pos this]
  exact ⟨rfl, T', G, hT, hL, by omega, rfl⟩
 have := hT.out_all.1 h1
 unfold ftRoot; rw [if_neg this]
 exact ⟨rfl, _, _, tok_root hT h1, hL, by show T.n + 1 ≤ _; omega, (more_rootS hT).symm⟩
section
variable {n : Nat} {F : FoS} {tb : Nat} {L : Hp} (hH : TrF n F tb L)
include hH
theorem TrF.nd : Fo.Nd F := by obtain ⟨T, G, hT, _, _, rfl⟩ := hH; exact hT.ndS
theorem TrF.len : F.all.length ≤ n := by
 obtain ⟨T, G, hT, _, hn, rfl⟩ := hH
 have := hT.all_len
 rw [Fo.all_map, List.length_map]; omega
theorem TrF.more {m : Nat} (h : n ≤ m) : TrF m F tb L := by
 obtain ⟨T, G, hT, hL, hn, e⟩ := hH
 exact ⟨T, G, hT, hL, Nat.le_trans hn h, e⟩
theorem tr_fKin (h : n ≤ 2 ^ 20) (s : SlotM) : Tr Try.prog 47 [trP tb, slotV s] L (fun u L' => ∃ K, Slc 38 2 u (ftKin F s).length (slotsCells (ftKin F s)) K ∧ L' = K ++ L) := by
 obtain ⟨T, G, hT, hL, hn, rfl⟩ := hH
 rw [← hT.kinS]
 unfold tkin
 cases e : tget s T.M with
 | none => exact (tr_tKin0 tb L T hL s e).mono fun u L' ⟨hu, hl⟩ => ⟨[], by rw [hu]; exact Slc.nil _ _, hl⟩
 | some i => exact tr_tKin1 tb L T hL G hT (by omega) s i e
theorem tr_fRoot (s : SlotM) : Tr Try.prog 46 [trP tb, slotV s] L (fun u L' => u = .int .i64 (ftRoot F s).1 ∧ TrF (n + 1) (ftRoot F s).2 tb L') := by
 obtain ⟨T, G, hT, hL, hn, rfl⟩ := hH
 refine (tr_tRoot tb L T hL hT.ix s).mono ?_
 rintro u L' ⟨e, T', rfl, ha, hl⟩
 obtain ⟨h1, h2⟩ := TAdd.root hT ha hl hn
 exact ⟨by rw [h1], h2⟩
theorem tr_fChild (h : n ≤ 2 ^ 20) (o s : SlotM) : Tr Try.prog 55 [trP tb, slotV o, slotV s] L (fun u L' => u = .int .i64 (ftChild F o s).1 ∧ TrF (n + 1) (ftChild F o s).2 tb L') := by
 obtain ⟨T, G, hT, hL, hn, rfl⟩ := hH
 refine (tr_tChild tb L T hL hT.ix (by omega) o s).mono ?_
 rintro u L' ⟨e, T', rfl, ha, hl⟩
 rcases ha with ⟨h1, rfl, rfl⟩ | ⟨j, h1, ⟨i, h2, rfl, rfl⟩ | ⟨h2, rfl, t, rfl⟩⟩
 ·
  unfold ftChild; rw [if_neg (hT.out_all.1 h1)]
  exact ⟨rfl, _, G, hT, hl, by omega, rfl⟩
 ·
  unfold ftChild; rw [if_pos (hT.in_all.2 ⟨j, h1⟩), if_pos (hT.in_all.2 ⟨i, h2⟩)]
  exact ⟨rfl, _, G, hT, hl, by omega, rfl⟩
 unfold ftChild; rw [if_pos (hT.in_all.2 ⟨j, h1⟩), if_neg (hT.out_all.1 h2)]
 exact ⟨rfl, _, _, tok_child hT h2 (hT.mem h1), hl, by show T.n + 1 ≤ _; omega, (more_childS hT h1).symm⟩
theorem tr_fDrop (h : n ≤ 2 ^ 20) (s : SlotM) : Tr Try.prog 57 [trP tb, slotV s] L (fun u L' => u = .int .i64 (ftDrop F s).1 ∧ TrF n (ftDrop F s).2 tb L') := by
 obtain ⟨T, G, hT, hL, hn, rfl⟩ := hH
 refine (tr_tDrop tb L T hL hT.ix (by omega) s (fun x hx => hT.xk hx) (fun x j hx hp => (hT.xj hx hp).1)).mono ?_
 rintro u L' ⟨e, T', rfl, ha, hl⟩
 rcases ha with ⟨h1, rfl, rfl⟩ | ⟨i, h1, rfl, rfl⟩
 ·
  unfold ftDrop; rw [if_neg (hT.out_all.1 h1)]
  exact ⟨rfl, _, G, hT, hl, by omega, rfl⟩
 unfold ftDrop; rw [if_pos (hT.in_all.2 ⟨i, h1⟩)]
 exact ⟨rfl, _, _, tok_drop hT h1, hl, by show T.n ≤ _; omega, (gone_S hT h1).symm⟩
end
end Go.Proofs.Ytdodfnjmkpgdbaa
end
section
set_option linter.unusedVariables false
set_option linter.unusedSimpArgs false
namespace Go.Proofs.Ytdodfnjmkpgdbaa
open Go.SL
abbrev cpP (cb : Nat) : Value := .pointer (some ⟨cb, 0, none⟩)
theorem tr_mask (a b : Int) : TrR Try.prog 76 [.int .i64 a, .int .i64 b] ([]) (.int .i64 (maskM a b)) := by
 refine Tr.enter Try.func76 rfl Try.ntmps76 rfl (fun W F => ?_)
 refine Wp.app ?_
 refine Wp.seq ?_
 refine Wp.region ?_
 refine Ops.pv (pv_assign rfl) rfl ?_
 refine Ops.nil ?_
 refine Ends.seq ?_
 refine Wp.seq ?_
 refine Wp.seq ?_
 refine Wp.region ?_
 refine Ops.pv (pv_move rfl) rfl ?_
 refine Ops.ef rfl (ef_callr (tr_rightsOk a) rfl rfl) ?_
 rintro _ _ ⟨rfl, rfl⟩
 refine Ops.pv (pv_not_dec rfl) rfl ?_
 refine Ops.pv (pv_move rfl) rfl ?_
 refine Ops.split (t := 8) rfl (fun h1 => ?_) (fun h1 => ?_)
 ·
  refine Ops.skipg ⟨_, _, rfl, rfl, rfl⟩ rfl ?_
  refine Ops.skipg ⟨_, _, rfl, rfl, rfl⟩ rfl ?_
  refine Ops.skipg ⟨_, _, rfl, rfl, rfl⟩ rfl ?_
  refine Ops.pv (pv_pick_true rfl rfl) rfl ?_
  refine Ops.nil ?_
  refine Ends.seq ?_
  refine Wp.cond_true rfl ?_
  refine Wp.seq ?_
  refine Wp.region ?_
  refine Ops.pv (pv_assign rfl) rfl ?_
  refine Ops.nil ?_
  refine Ends.seq ?_
  refine Wp.ret ?_
  refine Ends.then_ret ?_
  exact Ends.ret (res1 rfl rfl) ⟨by simp_all [maskM, rightsOk], rfl⟩
 refine Ops.pvg ⟨_, _, rfl, rfl, rfl⟩ (pv_move rfl) rfl ?_
 refine Ops.efg ⟨_, _, rfl, rfl, rfl⟩ (ef_callr (tr_rightsOk b) rfl rfl) ?_
 rintro _ _ ⟨rfl, rfl⟩
 refine Ops.pvg ⟨_, _, rfl, rfl, rfl⟩ (pv_not_dec rfl) rfl ?_
 refine Ops.pv (pv_pick_false rfl rfl) rfl ?_
 refine Ops.nil ?_
 refine Ends.seq ?_
 refine Wp.cond_dect rfl (fun h2 => ?_) (fun h2 => ?_)
 ·
  refine Wp.seq ?_
  refine Wp.region ?_
  refine Ops.pv (pv_assign rfl) rfl ?_
  refine Ops.nil ?_
  refine Ends.seq ?_
  refine Wp.ret ?_
  refine Ends.then_ret ?_
  exact Ends.ret (res1 rfl rfl) ⟨by simp_all [maskM, rightsOk], rfl⟩
 refine Wp.skip ?_
 refine Ends.seq ?_
 refine Wp.seq ?_
 refine Wp.region ?_
 refine Ops.pv (pv_move rfl) rfl ?_
 refine Ops.pv (pv_move rfl) rfl ?_
 refine Ops.pv (pv_and rfl rfl rfl) rfl ?_
 refine Ops.pv (pv_assign rfl) rfl ?_
 refine Ops.nil ?_
 refine Ends.seq ?_
 refine Wp.ret ?_
 exact Ends.ret (res1 rfl rfl) ⟨by simp_all [maskM, rightsOk], rfl⟩
set_option maxHeartbeats 4000000 in
theorem tr_derive (c : CapM) (r bd g n : Int) : TrR Try.prog 56 [c.v, .int .i64 r, .int .u64 bd, .int .u64 g, .int .i64 n] ([]) (.tuple #[(derive c r bd g n).1.v, .int .i64 (derive c r bd g n).2]) := by
 refine Tr.enter Try.func56 rfl Try.ntmps56 rfl (fun W F => ?_)
 refine Wp.app ?_
 refine Wp.seq ?_
 refine Wp.region ?_
 refine Ops.ef rfl (ef_boxK rfl rfl) ?_
 rintro _ _ ⟨b1, rfl, rfl⟩
 refine Ops.ef rfl (ef_allocK tyZ24 rfl) ?_
 rintro _ _ ⟨b2, rfl, rfl⟩
 refine Ops.pv (pv_assign rfl) rfl ?_
 refine Ops.nil ?_
 refine Ends.seq ?_
 refine Wp.seq ?_
 refine Wp.seq ?_
 refine Wp.region ?_
 refine Ops.pv (pv_loadK [_, _, _, _, _, _] rfl rfl rfl ⟨rfl, rfl, rfl, rfl, rfl, rfl, trivial⟩) rfl ?_
 refine Ops.ef rfl (ef_callr (tr_check c) rfl rfl) ?_
 rintro _ _ ⟨rfl, rfl⟩
 refine Ops.pv (pv_assign rfl) rfl ?_
 refine Ops.nil ?_
 refine Ends.seq ?_
 refine Wp.seq ?_
 refine Wp.region ?_
 refine Ops.pv (pv_move rfl) rfl ?_
 refine Ops.pv (pv_neq rfl rfl) rfl ?_
 refine Ops.nil ?_
 refine Ends.seq ?_
 refine Wp.cond_dect rfl (fun h1 => ?_) (fun h1 => ?_)
 ·
  refine Wp.seq ?_
  refine Wp.region ?_
  refine Ops.pv (pv_build rfl) rfl ?_
  refine Ops.pv (pv_move rfl) rfl ?_
  refine Ops.ef rfl (ef_storeK rfl rfl rfl rfl) ?_
  rintro _ _ ⟨rfl, rfl⟩
  refine Ops.pv (pv_assign rfl) rfl ?_
  refine Ops.nil ?_
  refine Ends.seq ?_
  refine Wp.ret ?_
  refine Ends.then_ret ?_
  exact Ends.ret (res_list (rs := [.cell 10 24, .tmp 11]) rfl ⟨_, _, rfl, rv_cellK [_, _, _, _, _, _] rfl rfl rfl ⟨rfl, rfl, rfl, rfl, rfl, rfl, trivial⟩, ⟨_, _, rfl, rv_tmp rfl, rfl⟩⟩ rfl) ⟨by simp_all [derive, rightsOk, IntKind.bits], rfl⟩
 refine Wp.skip ?_
 refine Ends.seq ?_
 refine Wp.seq ?_
 refine Wp.seq ?_
 refine Wp.region ?_
 refine Ops.pv (pv_fieldAddr0 rfl rfl) rfl ?_
 refine Ops.pv (pv_load rfl rfl rfl) rfl ?_
 refine Ops.nil ?_
 refine Ends.seq ?_
 refine Wp.block ?_
 refine Wp.seq ?_
 refine Wp.region ?_
 refine Ops.pv (pv_eql rfl rfl) rfl ?_
 refine Ops.pv (pv_assign rfl) rfl ?_
 refine Ops.nil ?_
 refine Ends.seq ?_
 refine Wp.cond_dect rfl (fun h2 => ?_) (fun h2 => ?_)
 ·
  refine Wp.seq ?_
  refine Wp.region ?_
  refine Ops.pv (pv_build rfl) rfl ?_
  refine Ops.ef rfl (ef_storeK rfl rfl rfl rfl) ?_
  rintro _ _ ⟨rfl, rfl⟩
  refine Ops.pv (pv_assign rfl) rfl ?_
  refine Ops.nil ?_
  refine Ends.seq ?_
  refine Wp.ret ?_
  refine Ends.block_ret ?_
  refine Ends.then_ret ?_
  exact Ends.ret (res_list (rs := [.cell 10 24, .tmp 11]) rfl ⟨_, _, rfl, rv_cellK [_, _, _, _, _, _] rfl rfl rfl ⟨rfl, rfl, rfl, rfl, rfl, rfl, trivial⟩, ⟨_, _, rfl, rv_tmp rfl, rfl⟩⟩ rfl) ⟨by simp_all [derive, rightsOk, IntKind.bits], rfl⟩
 refine Wp.seq ?_
 refine Wp.seq ?_
 refine Wp.region ?_
 refine Ops.pv (pv_eql rfl rfl) rfl ?_
 refine Ops.pv (pv_assign rfl) rfl ?_
 refine Ops.nil ?_
 refine Ends.seq ?_
 refine Wp.cond_dect rfl (fun h3 => ?_) (fun h3 => ?_)
 ·
  refine Wp.skip ?_
  refine Ends.seq ?_
  refine Wp.cond_true rfl ?_
  refine Wp.seq ?_
  refine Wp.region ?_
  refine Ops.pv (pv_build rfl) rfl ?_
  refine Ops.ef rfl (ef_storeK rfl rfl rfl rfl) ?_
  rintro _ _ ⟨rfl, rfl⟩
  refine Ops.pv (pv_assign rfl) rfl ?_
  refine Ops.nil ?_
  refine Ends.seq ?_
  refine Wp.ret ?_
  refine Ends.block_ret ?_
  refine Ends.then_ret ?_
  exact Ends.ret (res_list (rs := [.cell 10 24, .tmp 11]) rfl ⟨_, _, rfl, rv_cellK [_, _, _, _, _, _] rfl rfl rfl ⟨rfl, rfl, rfl, rfl, rfl, rfl, trivial⟩, ⟨_, _, rfl, rv_tmp rfl, rfl⟩⟩ rfl) ⟨by simp_all [derive, rightsOk, IntKind.bits], rfl⟩
 refine Wp.seq ?_
 refine Wp.region ?_
 refine Ops.pv (pv_eql rfl rfl) rfl ?_
 refine Ops.pv (pv_assign rfl) rfl ?_
 refine Ops.nil ?_
 refine Ends.seq ?_
 refine Wp.cond_dect rfl (fun h4 => ?_) (fun h4 => ?_)
 ·
  refine Wp.skip ?_
  refine Ends.seq ?_
  refine Wp.cond_true rfl ?_
  refine Wp.seq ?_
  refine Wp.region ?_
  refine Ops.pv (pv_build rfl) rfl ?_
  refine Ops.ef rfl (ef_storeK rfl rfl rfl rfl) ?_
  rintro _ _ ⟨rfl, rfl⟩
  refine Ops.pv (pv_assign rfl) rfl ?_
  refine Ops.nil ?_
  refine Ends.seq ?_
  refine Wp.ret ?_
  refine Ends.block_ret ?_
  refine Ends.then_ret ?_
  exact Ends.ret (res_list (rs := [.cell 10 24, .tmp 11]) rfl ⟨_, _, rfl, rv_cellK [_, _, _, _, _, _] rfl rfl rfl ⟨rfl, rfl, rfl, rfl, rfl, rfl, trivial⟩, ⟨_, _, rfl, rv_tmp rfl, rfl⟩⟩ rfl) ⟨by simp_all [derive, rightsOk, IntKind.bits], rfl⟩
 refine Wp.region ?_
 refine Ops.pv (pv_eql rfl rfl) rfl ?_
 refine Ops.pv (pv_assign rfl) rfl ?_
 refine Ops.nil ?_
 refine Ends.seq ?_
 refine Wp.cond_dect rfl (fun h5 => ?_) (fun h5 => ?_)
 ·
  refine Wp.seq ?_
  refine Wp.region ?_
  refine Ops.pv (pv_build rfl) rfl ?_
  refine Ops.ef rfl (ef_storeK rfl rfl rfl rfl) ?_
  rintro _ _ ⟨rfl, rfl⟩
  refine Ops.pv (pv_assign rfl) rfl ?_
  refine Ops.nil ?_
  refine Ends.seq ?_
  refine Wp.ret ?_
  refine Ends.block_ret ?_
  refine Ends.then_ret ?_
  exact Ends.ret (res_list (rs := [.cell 10 24, .tmp 11]) rfl ⟨_, _, rfl, rv_cellK [_, _, _, _, _, _] rfl rfl rfl ⟨rfl, rfl, rfl, rfl, rfl, rfl, trivial⟩, ⟨_, _, rfl, rv_tmp rfl, rfl⟩⟩ rfl) ⟨by simp_all [derive, rightsOk, IntKind.bits], rfl⟩
 refine Wp.skip ?_
 refine Ends.block_normal ?_
 refine Ends.seq ?_
 refine Wp.seq ?_
 refine Wp.seq ?_
 refine Wp.region ?_
 refine Ops.pv (pv_move rfl) rfl ?_
 refine Ops.ef rfl (ef_callr (tr_rightsOk r) rfl rfl) ?_
 rintro _ _ ⟨rfl, rfl⟩
 refine Ops.pv (pv_not_dec rfl) rfl ?_
 refine Ops.nil ?_
 refine Ends.seq ?_
 refine Wp.cond_dect rfl (fun h6 => ?_) (fun h6 => ?_)
 ·
  refine Wp.seq ?_
  refine Wp.region ?_
  refine Ops.pv (pv_build rfl) rfl ?_
  refine Ops.ef rfl (ef_storeK rfl rfl rfl rfl) ?_
  rintro _ _ ⟨rfl, rfl⟩
  refine Ops.pv (pv_assign rfl) rfl ?_
  refine Ops.nil ?_
  refine Ends.seq ?_
  refine Wp.ret ?_
  refine Ends.then_ret ?_
  exact Ends.ret (res_list (rs := [.cell 10 24, .tmp 11]) rfl ⟨_, _, rfl, rv_cellK [_, _, _, _, _, _] rfl rfl rfl ⟨rfl, rfl, rfl, rfl, rfl, rfl, trivial⟩, ⟨_, _, rfl, rv_tmp rfl, rfl⟩⟩ rfl) ⟨by simp_all [derive, rightsOk, IntKind.bits], rfl⟩
 refine Wp.skip ?_
 refine Ends.seq ?_
 refine Wp.seq ?_
 refine Wp.seq ?_
 refine Wp.region ?_
 refine Ops.pv (pv_fieldAddr0 rfl rfl) rfl ?_
 refine Ops.pv (pv_load rfl rfl rfl) rfl ?_
 refine Ops.nil ?_
 refine Ends.seq ?_
 refine Wp.block ?_
 refine Wp.seq ?_
 refine Wp.region ?_
 refine Ops.pv (pv_eql rfl rfl) rfl ?_
 refine Ops.pv (pv_assign rfl) rfl ?_
 refine Ops.nil ?_
 refine Ends.seq ?_
 refine Wp.cond_dect rfl (fun h7 => ?_) (fun h7 => ?_)
 ·
  refine Wp.region ?_
  refine Ops.pv (pv_fieldAddr0 rfl rfl) rfl ?_
  refine Ops.pv (pv_load rfl rfl rfl) rfl ?_
  refine Ops.pv (pv_move rfl) rfl ?_
  refine Ops.ef rfl (ef_callr (tr_mask c.rights r) rfl rfl) ?_
  rintro _ _ ⟨rfl, rfl⟩
  refine Ops.pv (pv_fieldAddr0 rfl rfl) rfl ?_
  refine Ops.ef rfl (ef_store1 rfl rfl (by first | rfl | assumption) (by first | rfl | assumption)) ?_
  rintro _ _ ⟨rfl, rfl⟩
  refine Ops.nil ?_
  refine Ends.block_normal ?_
  refine Ends.seq ?_
  refine Wp.seq ?_
  refine Wp.region ?_
  refine Ops.pv (pv_loadK [_, _, _, _, _, _] rfl rfl rfl ⟨rfl, rfl, rfl, rfl, rfl, rfl, trivial⟩) rfl ?_
  refine Ops.ef rfl (ef_storeK rfl rfl rfl rfl) ?_
  rintro _ _ ⟨rfl, rfl⟩
  refine Ops.pv (pv_assign rfl) rfl ?_
  refine Ops.nil ?_
  refine Ends.seq ?_
  refine Wp.ret ?_
  exact Ends.ret (res_list (rs := [.cell 10 24, .tmp 11]) rfl ⟨_, _, rfl, rv_cellK [_, _, _, _, _, _] rfl rfl rfl ⟨rfl, rfl, rfl, rfl, rfl, rfl, trivial⟩, ⟨_, _, rfl, rv_tmp rfl, rfl⟩⟩ rfl) ⟨by simp_all [derive, rightsOk, IntKind.bits], rfl⟩
 refine Wp.seq ?_
 refine Wp.region ?_
 refine Ops.pv (pv_eql rfl rfl) rfl ?_
 refine Ops.pv (pv_assign rfl) rfl ?_
 refine Ops.nil ?_
 refine Ends.seq ?_
 refine Wp.cond_dect rfl (fun h8 => ?_) (fun h8 => ?_)
 ·
  refine Wp.seq ?_
  refine Wp.seq ?_
  refine Wp.region ?_
  refine Ops.pv (pv_move rfl) rfl ?_
  refine Ops.pv (pv_move rfl) rfl ?_
  refine Ops.ef rfl (ef_callr (tr_fits g n) rfl rfl) ?_
  rintro _ _ ⟨rfl, rfl⟩
  refine Ops.pv (pv_not rfl) rfl ?_
  refine Ops.nil ?_
  refine Ends.seq ?_
  refine Wp.cond_t rfl (fun h9 => ?_) (fun h9 => ?_)
  ·
   refine Wp.seq ?_
   refine Wp.region ?_
   refine Ops.pv (pv_build rfl) rfl ?_
   refine Ops.ef rfl (ef_storeK rfl rfl rfl rfl) ?_
   rintro _ _ ⟨rfl, rfl⟩
   refine Ops.pv (pv_assign rfl) rfl ?_
   refine Ops.nil ?_
   refine Ends.seq ?_
   refine Wp.ret ?_
   refine Ends.then_ret ?_
   refine Ends.block_ret ?_
   refine Ends.then_ret ?_
   exact Ends.ret (res_list (rs := [.cell 10 24, .tmp 11]) rfl ⟨_, _, rfl, rv_cellK [_, _, _, _, _, _] rfl rfl rfl ⟨rfl, rfl, rfl, rfl, rfl, rfl, trivial⟩, ⟨_, _, rfl, rv_tmp rfl, rfl⟩⟩ rfl) ⟨by simp_all [derive, rightsOk, IntKind.bits], rfl⟩
  refine Wp.skip ?_
  refine Ends.seq ?_
  refine Wp.region ?_
  refine Ops.pv (pv_move rfl) rfl ?_
  refine Ops.pv (pv_move rfl) rfl ?_
  refine Ops.pv (pv_fieldAddr0 rfl rfl) rfl ?_
  refine Ops.ef rfl (ef_store1 rfl rfl (by first | rfl | assumption) (by first | rfl | assumption)) ?_
  rintro _ _ ⟨rfl, rfl⟩
  refine Ops.pv (pv_fieldAddr0 rfl rfl) rfl ?_
  refine Ops.ef rfl (ef_store1 rfl rfl (by first | rfl | assumption) (by first | rfl | assumption)) ?_
  rintro _ _ ⟨rfl, rfl⟩
  refine Ops.nil ?_
  refine Ends.block_normal ?_
  refine Ends.seq ?_
  refine Wp.seq ?_
  refine Wp.region ?_
  refine Ops.pv (pv_loadK [_, _, _, _, _, _] rfl rfl rfl ⟨rfl, rfl, rfl, rfl, rfl, rfl, trivial⟩) rfl ?_
  refine Ops.ef rfl (ef_storeK rfl rfl rfl rfl) ?_
  rintro _ _ ⟨rfl, rfl⟩
  refine Ops.pv (pv_assign rfl) rfl ?_
  refine Ops.nil ?_
  refine Ends.seq ?_
  refine Wp.ret ?_
  exact Ends.ret (res_list (rs := [.cell 10 24, .tmp 11]) rfl ⟨_, _, rfl, rv_cellK [_, _, _, _, _, _] rfl rfl rfl ⟨rfl, rfl, rfl, rfl, rfl, rfl, trivial⟩, ⟨_, _, rfl, rv_tmp rfl, rfl⟩⟩ rfl) ⟨by simp_all [derive, rightsOk, IntKind.bits], rfl⟩
 refine Wp.seq ?_
 refine Wp.seq ?_
 refine Wp.region ?_
 refine Ops.pv (pv_eql rfl rfl) rfl ?_
 refine Ops.pv (pv_assign rfl) rfl ?_
 refine Ops.nil ?_
 refine Ends.seq ?_
 refine Wp.cond_dect rfl (fun h10 => ?_) (fun h10 => ?_)
 ·
  refine Wp.skip ?_
  refine Ends.seq ?_
  refine Wp.cond_true rfl ?_
  refine Wp.seq ?_
  refine Wp.region ?_
  refine Ops.pv (pv_fieldAddr0 rfl rfl) rfl ?_
  refine Ops.pv (pv_load rfl rfl rfl) rfl ?_
  refine Ops.pv (pv_move rfl) rfl ?_
  refine Ops.ef rfl (ef_callr (tr_mask c.rights r) rfl rfl) ?_
  rintro _ _ ⟨rfl, rfl⟩
  refine Ops.pv (pv_fieldAddr0 rfl rfl) rfl ?_
  refine Ops.ef rfl (ef_store1 rfl rfl (by first | rfl | assumption) (by first | rfl | assumption)) ?_
  rintro _ _ ⟨rfl, rfl⟩
  refine Ops.nil ?_
  refine Ends.seq ?_
  refine Wp.seq ?_
  refine Wp.seq ?_
  refine Wp.region ?_
  refine Ops.pv (pv_move rfl) rfl ?_
  refine Ops.pv (pv_neq rfl rfl) rfl ?_
  refine Ops.nil ?_
  refine Ends.seq ?_
  refine Wp.cond_dect rfl (fun h11 => ?_) (fun h11 => ?_)
  ·
   refine Wp.seq ?_
   refine Wp.seq ?_
   refine Wp.region ?_
   refine Ops.pv (pv_fieldAddr0 rfl rfl) rfl ?_
   refine Ops.pv (pv_load rfl rfl rfl) rfl ?_
   refine Ops.pv (pv_neq rfl rfl) rfl ?_
   refine Ops.nil ?_
   refine Ends.seq ?_
   refine Wp.cond_dect rfl (fun h12 => ?_) (fun h12 => ?_)
   ·
    refine Wp.seq ?_
    refine Wp.region ?_
    refine Ops.pv (pv_build rfl) rfl ?_
    refine Ops.ef rfl (ef_storeK rfl rfl rfl rfl) ?_
    rintro _ _ ⟨rfl, rfl⟩
    refine Ops.pv (pv_assign rfl) rfl ?_
    refine Ops.nil ?_
    refine Ends.seq ?_
    refine Wp.ret ?_
    refine Ends.then_ret ?_
    refine Ends.then_ret ?_
    refine Ends.block_ret ?_
    refine Ends.then_ret ?_
    exact Ends.ret (res_list (rs := [.cell 10 24, .tmp 11]) rfl ⟨_, _, rfl, rv_cellK [_, _, _, _, _, _] rfl rfl rfl ⟨rfl, rfl, rfl, rfl, rfl, rfl, trivial⟩, ⟨_, _, rfl, rv_tmp rfl, rfl⟩⟩ rfl) ⟨by simp_all [derive, rightsOk, IntKind.bits], rfl⟩
   refine Wp.skip ?_
   refine Ends.seq ?_
   refine Wp.region ?_
   refine Ops.pv (pv_move rfl) rfl ?_
   refine Ops.pv (pv_fieldAddr0 rfl rfl) rfl ?_
   refine Ops.ef rfl (ef_store1 rfl rfl (by first | rfl | assumption) (by first | rfl | assumption)) ?_
   rintro _ _ ⟨rfl, rfl⟩
   refine Ops.nil ?_
   refine Ends.seq ?_
   refine Wp.seq ?_
   refine Wp.region ?_
   refine Ops.pv (pv_fieldAddr0 rfl rfl) rfl ?_
   refine Ops.pv (pv_load rfl rfl rfl) rfl ?_
   refine Ops.pv (pv_shr rfl rfl (by omega) rfl) rfl ?_
   refine Ops.pv (pv_neq rfl rfl) rfl ?_
   refine Ops.nil ?_
   refine Ends.seq ?_
   refine Wp.cond_dect rfl (fun h13 => ?_) (fun h13 => ?_)
   ·
    refine Wp.seq ?_
    refine Wp.region ?_
    refine Ops.pv (pv_build rfl) rfl ?_
    refine Ops.ef rfl (ef_storeK rfl rfl rfl rfl) ?_
    rintro _ _ ⟨rfl, rfl⟩
    refine Ops.pv (pv_assign rfl) rfl ?_
    refine Ops.nil ?_
    refine Ends.seq ?_
    refine Wp.ret ?_
    refine Ends.block_ret ?_
    refine Ends.then_ret ?_
    exact Ends.ret (res_list (rs := [.cell 10 24, .tmp 11]) rfl ⟨_, _, rfl, rv_cellK [_, _, _, _, _, _] rfl rfl rfl ⟨rfl, rfl, rfl, rfl, rfl, rfl, trivial⟩, ⟨_, _, rfl, rv_tmp rfl, rfl⟩⟩ rfl) ⟨by simp_all [derive, rightsOk, IntKind.bits], rfl⟩
   refine Wp.skip ?_
   refine Ends.block_normal ?_
   refine Ends.seq ?_
   refine Wp.seq ?_
   refine Wp.region ?_
   refine Ops.pv (pv_loadK [_, _, _, _, _, _] rfl rfl rfl ⟨rfl, rfl, rfl, rfl, rfl, rfl, trivial⟩) rfl ?_
   refine Ops.ef rfl (ef_storeK rfl rfl rfl rfl) ?_
   rintro _ _ ⟨rfl, rfl⟩
   refine Ops.pv (pv_assign rfl) rfl ?_
   refine Ops.nil ?_
   refine Ends.seq ?_
   refine Wp.ret ?_
   exact Ends.ret (res_list (rs := [.cell 10 24, .tmp 11]) rfl ⟨_, _, rfl, rv_cellK [_, _, _, _, _, _] rfl rfl rfl ⟨rfl, rfl, rfl, rfl, rfl, rfl, trivial⟩, ⟨_, _, rfl, rv_tmp rfl, rfl⟩⟩ rfl) ⟨by simp_all [derive, rightsOk, IntKind.bits], rfl⟩
  refine Wp.skip ?_
  refine Ends.seq ?_
  refine Wp.seq ?_
  refine Wp.region ?_
  refine Ops.pv (pv_fieldAddr0 rfl rfl) rfl ?_
  refine Ops.pv (pv_load rfl rfl rfl) rfl ?_
  refine Ops.pv (pv_shr rfl rfl (by omega) rfl) rfl ?_
  refine Ops.pv (pv_neq rfl rfl) rfl ?_
  refine Ops.nil ?_
  refine Ends.seq ?_
  refine Wp.cond_dect rfl (fun h14 => ?_) (fun h14 => ?_)
  ·
   refine Wp.seq ?_
   refine Wp.region ?_
   refine Ops.pv (pv_build rfl) rfl ?_
   refine Ops.ef rfl (ef_storeK rfl rfl rfl rfl) ?_
   rintro _ _ ⟨rfl, rfl⟩
   refine Ops.pv (pv_assign rfl) rfl ?_
   refine Ops.nil ?_
   refine Ends.seq ?_
   refine Wp.ret ?_
   refine Ends.block_ret ?_
   refine Ends.then_ret ?_
   exact Ends.ret (res_list (rs := [.cell 10 24, .tmp 11]) rfl ⟨_, _, rfl, rv_cellK [_, _, _, _, _, _] rfl rfl rfl ⟨rfl, rfl, rfl, rfl, rfl, rfl, trivial⟩, ⟨_, _, rfl, rv_tmp rfl, rfl⟩⟩ rfl) ⟨by simp_all [derive, rightsOk, IntKind.bits], rfl⟩
  refine Wp.skip ?_
  refine Ends.block_normal ?_
  refine Ends.seq ?_
  refine Wp.seq ?_
  refine Wp.region ?_
  refine Ops.pv (pv_loadK [_, _, _, _, _, _] rfl rfl rfl ⟨rfl, rfl, rfl, rfl, rfl, rfl, trivial⟩) rfl ?_
  refine Ops.ef rfl (ef_storeK rfl rfl rfl rfl) ?_
  rintro _ _ ⟨rfl, rfl⟩
  refine Ops.pv (pv_assign rfl) rfl ?_
  refine Ops.nil ?_
  refine Ends.seq ?_
  refine Wp.ret ?_
  exact Ends.ret (res_list (rs := [.cell 10 24, .tmp 11]) rfl ⟨_, _, rfl, rv_cellK [_, _, _, _, _, _] rfl rfl rfl ⟨rfl, rfl, rfl, rfl, rfl, rfl, trivial⟩, ⟨_, _, rfl, rv_tmp rfl, rfl⟩⟩ rfl) ⟨by simp_all [derive, rightsOk, IntKind.bits], rfl⟩
 refine Wp.region ?_
 refine Ops.pv (pv_eql rfl rfl) rfl ?_
 refine Ops.pv (pv_assign rfl) rfl ?_
 refine Ops.nil ?_
 refine Ends.seq ?_
 refine Wp.cond_dect rfl (fun h15 => ?_) (fun h15 => ?_)
 ·
  refine Wp.seq ?_
  refine Wp.region ?_
  refine Ops.pv (pv_fieldAddr0 rfl rfl) rfl ?_
  refine Ops.pv (pv_load rfl rfl rfl) rfl ?_
  refine Ops.pv (pv_move rfl) rfl ?_
  refine Ops.ef rfl (ef_callr (tr_mask c.rights r) rfl rfl) ?_
  rintro _ _ ⟨rfl, rfl⟩
  refine Ops.pv (pv_fieldAddr0 rfl rfl) rfl ?_
  refine Ops.ef rfl (ef_store1 rfl rfl (by first | rfl | assumption) (by first | rfl | assumption)) ?_
  rintro _ _ ⟨rfl, rfl⟩
  refine Ops.nil ?_
  refine Ends.seq ?_
  refine Wp.seq ?_
  refine Wp.seq ?_
  refine Wp.region ?_
  refine Ops.pv (pv_move rfl) rfl ?_
  refine Ops.pv (pv_neq rfl rfl) rfl ?_
  refine Ops.nil ?_
  refine Ends.seq ?_
  refine Wp.cond_dect rfl (fun h16 => ?_) (fun h16 => ?_)
  ·
   refine Wp.seq ?_
   refine Wp.seq ?_
   refine Wp.region ?_
   refine Ops.pv (pv_fieldAddr0 rfl rfl) rfl ?_
   refine Ops.pv (pv_load rfl rfl rfl) rfl ?_
   refine Ops.pv (pv_neq rfl rfl) rfl ?_
   refine Ops.nil ?_
   refine Ends.seq ?_
   refine Wp.cond_dect rfl (fun h17 => ?_) (fun h17 => ?_)
   ·
    refine Wp.seq ?_
    refine Wp.region ?_
    refine Ops.pv (pv_build rfl) rfl ?_
    refine Ops.ef rfl (ef_storeK rfl rfl rfl rfl) ?_
    rintro _ _ ⟨rfl, rfl⟩
    refine Ops.pv (pv_assign rfl) rfl ?_
    refine Ops.nil ?_
    refine Ends.seq ?_
    refine Wp.ret ?_
    refine Ends.then_ret ?_
    refine Ends.then_ret ?_
    refine Ends.block_ret ?_
    refine Ends.then_ret ?_
    exact Ends.ret (res_list (rs := [.cell 10 24, .tmp 11]) rfl ⟨_, _, rfl, rv_cellK [_, _, _, _, _, _] rfl rfl rfl ⟨rfl, rfl, rfl, rfl, rfl, rfl, trivial⟩, ⟨_, _, rfl, rv_tmp rfl, rfl⟩⟩ rfl) ⟨by simp_all [derive, rightsOk, IntKind.bits], rfl⟩
   refine Wp.skip ?_
   refine Ends.seq ?_
   refine Wp.region ?_
   refine Ops.pv (pv_move rfl) rfl ?_
   refine Ops.pv (pv_fieldAddr0 rfl rfl) rfl ?_
   refine Ops.ef rfl (ef_store1 rfl rfl (by first | rfl | assumption) (by first | rfl | assumption)) ?_
   rintro _ _ ⟨rfl, rfl⟩
   refine Ops.nil ?_
   refine Ends.seq ?_
   refine Wp.seq ?_
   refine Wp.region ?_
   refine Ops.pv (pv_fieldAddr0 rfl rfl) rfl ?_
   refine Ops.pv (pv_load rfl rfl rfl) rfl ?_
   refine Ops.pv (pv_shr rfl rfl (by omega) rfl) rfl ?_
   refine Ops.pv (pv_neq rfl rfl) rfl ?_
   refine Ops.nil ?_
   refine Ends.seq ?_
   refine Wp.cond_dect rfl (fun h18 => ?_) (fun h18 => ?_)
   ·
    refine Wp.seq ?_
    refine Wp.region ?_
    refine Ops.pv (pv_build rfl) rfl ?_
    refine Ops.ef rfl (ef_storeK rfl rfl rfl rfl) ?_
    rintro _ _ ⟨rfl, rfl⟩
    refine Ops.pv (pv_assign rfl) rfl ?_
    refine Ops.nil ?_
    refine Ends.seq ?_
    refine Wp.ret ?_
    refine Ends.block_ret ?_
    refine Ends.then_ret ?_
    exact Ends.ret (res_list (rs := [.cell 10 24, .tmp 11]) rfl ⟨_, _, rfl, rv_cellK [_, _, _, _, _, _] rfl rfl rfl ⟨rfl, rfl, rfl, rfl, rfl, rfl, trivial⟩, ⟨_, _, rfl, rv_tmp rfl, rfl⟩⟩ rfl) ⟨by simp_all [derive, rightsOk, IntKind.bits], rfl⟩
   refine Wp.skip ?_
   refine Ends.block_normal ?_
   refine Ends.seq ?_
   refine Wp.seq ?_
   refine Wp.region ?_
   refine Ops.pv (pv_loadK [_, _, _, _, _, _] rfl rfl rfl ⟨rfl, rfl, rfl, rfl, rfl, rfl, trivial⟩) rfl ?_
   refine Ops.ef rfl (ef_storeK rfl rfl rfl rfl) ?_
   rintro _ _ ⟨rfl, rfl⟩
   refine Ops.pv (pv_assign rfl) rfl ?_
   refine Ops.nil ?_
   refine Ends.seq ?_
   refine Wp.ret ?_
   exact Ends.ret (res_list (rs := [.cell 10 24, .tmp 11]) rfl ⟨_, _, rfl, rv_cellK [_, _, _, _, _, _] rfl rfl rfl ⟨rfl, rfl, rfl, rfl, rfl, rfl, trivial⟩, ⟨_, _, rfl, rv_tmp rfl, rfl⟩⟩ rfl) ⟨by simp_all [derive, rightsOk, IntKind.bits], rfl⟩
  refine Wp.skip ?_
  refine Ends.seq ?_
  refine Wp.seq ?_
  refine Wp.region ?_
  refine Ops.pv (pv_fieldAddr0 rfl rfl) rfl ?_
  refine Ops.pv (pv_load rfl rfl rfl) rfl ?_
  refine Ops.pv (pv_shr rfl rfl (by omega) rfl) rfl ?_
  refine Ops.pv (pv_neq rfl rfl) rfl ?_
  refine Ops.nil ?_
  refine Ends.seq ?_
  refine Wp.cond_dect rfl (fun h19 => ?_) (fun h19 => ?_)
  ·
   refine Wp.seq ?_
   refine Wp.region ?_
   refine Ops.pv (pv_build rfl) rfl ?_
   refine Ops.ef rfl (ef_storeK rfl rfl rfl rfl) ?_
   rintro _ _ ⟨rfl, rfl⟩
   refine Ops.pv (pv_assign rfl) rfl ?_
   refine Ops.nil ?_
   refine Ends.seq ?_
   refine Wp.ret ?_
   refine Ends.block_ret ?_
   refine Ends.then_ret ?_
   exact Ends.ret (res_list (rs := [.cell 10 24, .tmp 11]) rfl ⟨_, _, rfl, rv_cellK [_, _, _, _, _, _] rfl rfl rfl ⟨rfl, rfl, rfl, rfl, rfl, rfl, trivial⟩, ⟨_, _, rfl, rv_tmp rfl, rfl⟩⟩ rfl) ⟨by simp_all [derive, rightsOk, IntKind.bits], rfl⟩
  refine Wp.skip ?_
  refine Ends.block_normal ?_
  refine Ends.seq ?_
  refine Wp.seq ?_
  refine Wp.region ?_
  refine Ops.pv (pv_loadK [_, _, _, _, _, _] rfl rfl rfl ⟨rfl, rfl, rfl, rfl, rfl, rfl, trivial⟩) rfl ?_
  refine Ops.ef rfl (ef_storeK rfl rfl rfl rfl) ?_
  rintro _ _ ⟨rfl, rfl⟩
  refine Ops.pv (pv_assign rfl) rfl ?_
  refine Ops.nil ?_
  refine Ends.seq ?_
  refine Wp.ret ?_
  exact Ends.ret (res_list (rs := [.cell 10 24, .tmp 11]) rfl ⟨_, _, rfl, rv_cellK [_, _, _, _, _, _] rfl rfl rfl ⟨rfl, rfl, rfl, rfl, rfl, rfl, trivial⟩, ⟨_, _, rfl, rv_tmp rfl, rfl⟩⟩ rfl) ⟨by simp_all [derive, rightsOk, IntKind.bits], rfl⟩
 refine Wp.skip ?_
 refine Ends.block_normal ?_
 refine Ends.seq ?_
 refine Wp.seq ?_
 refine Wp.region ?_
 refine Ops.pv (pv_loadK [_, _, _, _, _, _] rfl rfl rfl ⟨rfl, rfl, rfl, rfl, rfl, rfl, trivial⟩) rfl ?_
 refine Ops.ef rfl (ef_storeK rfl rfl rfl rfl) ?_
 rintro _ _ ⟨rfl, rfl⟩
 refine Ops.pv (pv_assign rfl) rfl ?_
 refine Ops.nil ?_
 refine Ends.seq ?_
 refine Wp.ret ?_
 exact Ends.ret (res_list (rs := [.cell 10 24, .tmp 11]) rfl ⟨_, _, rfl, rv_cellK [_, _, _, _, _, _] rfl rfl rfl ⟨rfl, rfl, rfl, rfl, rfl, rfl, trivial⟩, ⟨_, _, rfl, rv_tmp rfl, rfl⟩⟩ rfl) ⟨by simp_all [derive, rightsOk, IntKind.bits], rfl⟩
theorem tr_mNew  : Tr Try.prog 13 [] ([]) (fun v L' => ∃ cb, v = cpP cb ∧ CapsH 0 PS.new cb L') := by
 refine Tr.enter Try.func13 rfl Try.ntmps13 rfl (fun W F => ?_)
 refine Wp.app ?_
 refine Wp.seq ?_
 refine Wp.region ?_
 refine Ops.pv (pv_assign rfl) rfl ?_
 refine Ops.nil ?_
 refine Ends.seq ?_
 refine Wp.seq ?_
 refine Wp.region ?_
 refine Ops.ef rfl (ef_call sf_new rfl rfl) ?_
 rintro _ _ ⟨_, Q1, ⟨sb1, rfl, hS1⟩, rfl, rfl⟩
 refine Ops.app ?_
 skip
 refine Ops.pv (pv_build rfl) rfl ?_
 refine Ops.ef rfl (ef_call tr_fNew rfl rfl) ?_
 rintro _ _ ⟨_, R1, ⟨tb1, rfl, hT1⟩, rfl, rfl⟩
 refine Ops.app ?_
 skip
 refine Ops.pv (pv_build rfl) rfl ?_
 refine Ops.ef rfl (ef_boxK rfl rfl) ?_
 rintro _ _ ⟨b1, rfl, rfl⟩
 refine Ops.pv (pv_assign rfl) rfl ?_
 refine Ops.nil ?_
 refine Ends.seq ?_
 refine Wp.ret ?_
 exact Ends.ret (L' := cBlk b1 sb1 tb1 :: (Q1 ++ R1)) (res1 rfl rfl) ⟨b1, rfl, sb1, tb1, Q1, R1, hS1, hT1, rfl⟩
theorem tr_smNode (l : List DN) (sb : Nat) (Ls : Hp) (hS : StF l sb Ls) (x r : Int) : Tr Try.prog 14 [.agg #[stP sb], .int .i64 x, .int .i64 r] (Ls) (fun u L' => u = .int .i64 (dadd l x r).1 ∧ StF (dadd l x r).2 sb L') := by
 refine Tr.enter Try.func14 rfl Try.ntmps14 rfl (fun W F => ?_)
 refine Wp.app ?_
 refine Wp.seq ?_
 refine Wp.region ?_
 refine Ops.ef rfl (ef_boxK rfl rfl) ?_
 rintro _ _ ⟨b1, rfl, rfl⟩
 refine Ops.pv (pv_assign rfl) rfl ?_
 refine Ops.nil ?_
 refine Ends.seq ?_
 refine Wp.seq ?_
 refine Wp.region ?_
 refine Ops.pv (pv_fieldAddr0 rfl rfl) rfl ?_
 refine Ops.pv (pv_load rfl rfl rfl) rfl ?_
 refine Ops.pv (pv_move rfl) rfl ?_
 refine Ops.pv (pv_move rfl) rfl ?_
 refine Ops.ef rfl (ef_call (sf_add hS x r) rfl rfl) ?_
 rintro _ _ ⟨_, Q1, ⟨rfl, hS1⟩, rfl, rfl⟩
 refine Ops.app ?_
 skip
 refine Ops.pv (pv_assign rfl) rfl ?_
 refine Ops.nil ?_
 refine Ends.seq ?_
 refine Wp.ret ?_
 exact Ends.ret (L' := Q1) (res1 rfl rfl) ⟨rfl, hS1⟩
theorem tr_smClear (l : List DN) (sb : Nat) (Ls : Hp) (hS : StF l sb Ls) (x : Int) : Tr Try.prog 31 [.agg #[stP sb], .int .i64 x] (Ls) (fun u L' => u = .int .i64 (ddrop l x).1 ∧ StF (ddrop l x).2 sb L') := by
 refine Tr.enter Try.func31 rfl Try.ntmps31 rfl (fun W F => ?_)
 refine Wp.app ?_
 refine Wp.seq ?_
 refine Wp.region ?_
 refine Ops.ef rfl (ef_boxK rfl rfl) ?_
 rintro _ _ ⟨b1, rfl, rfl⟩
 refine Ops.pv (pv_assign rfl) rfl ?_
 refine Ops.nil ?_
 refine Ends.seq ?_
 refine Wp.seq ?_
 refine Wp.region ?_
 refine Ops.pv (pv_fieldAddr0 rfl rfl) rfl ?_
 refine Ops.pv (pv_load rfl rfl rfl) rfl ?_
 refine Ops.pv (pv_move rfl) rfl ?_
 refine Ops.ef rfl (ef_call (sf_drop hS x) rfl rfl) ?_
 rintro _ _ ⟨_, Q1, ⟨rfl, hS1⟩, rfl, rfl⟩
 refine Ops.app ?_
 skip
 refine Ops.pv (pv_assign rfl) rfl ?_
 refine Ops.nil ?_
 refine Ends.seq ?_
 refine Wp.ret ?_
 exact Ends.ret (L' := Q1) (res1 rfl rfl) ⟨rfl, hS1⟩
theorem tr_mSource (n cb : Nat) (L : Hp) (p : PS) (hH : CapsH n p cb L) (so : SlotM) : TrR Try.prog 51 [cpP cb, slotV so] (L) (.tuple #[(mSource p so).1.v, .int .i64 (mSource p so).2]) := by
 obtain ⟨sb, tb, Ls, Lt, hS, hT, rfl⟩ := hH
 refine Tr.enter Try.func51 rfl Try.ntmps51 rfl (fun W F => ?_)
 refine Wp.app ?_
 refine Wp.seq ?_
 refine Wp.region ?_
 refine Ops.ef rfl (ef_boxK rfl rfl) ?_
 rintro _ _ ⟨b1, rfl, rfl⟩
 refine Ops.ef rfl (ef_allocK tyZ24 rfl) ?_
 rintro _ _ ⟨b2, rfl, rfl⟩
 refine Ops.pv (pv_assign rfl) rfl ?_
 refine Ops.nil ?_
 refine Ends.seq ?_
 refine Wp.seq ?_
 refine AnyH.start ((b1, .cells [.int .i64 so.1, .int .i64 so.2].toArray 38) :: cBlk cb sb tb :: []) 13 rfl ?_
 refine Tk 0 rfl rfl (pv_move rfl) rfl ?_
 refine Tk 1 rfl rfl (pv_nilCheck rfl) rfl ?_
 refine Tk 2 rfl rfl (pv_fieldAddr0 rfl rfl) rfl ?_
 refine Tk 3 rfl rfl (pv_fieldAddr0 rfl rfl) rfl ?_
 refine Tk 4 rfl rfl (pv_load rfl rfl rfl) rfl ?_
 refine Tk 5 rfl rfl (pv_loadK [_, _] rfl rfl rfl ⟨rfl, rfl, trivial⟩) rfl ?_
 refine AnyH.two 6 10 (by kernel_rfl) ?_ ?_
 ·
  refine Turn.ef rfl rfl (ef_callr (sf_get hS so) rfl rfl) ?_ ?_
  ·
   rintro _ _ ⟨rfl, rfl⟩; infer_instance
  rintro _ _ ⟨rfl, rfl⟩
  refine Tk 7 rfl rfl (pv_move rfl) rfl ?_
  refine Tk 8 rfl rfl (pv_extract rfl rfl) rfl ?_
  refine Tk 9 rfl rfl (pv_extract rfl rfl) rfl ?_
  refine AnyH.one 10 (by kernel_rfl) ?_
  refine Turn.ef rfl rfl (ef_allocK tyZ24 rfl) ?_ ?_
  ·
   rintro _ _ ⟨b3, rfl, rfl⟩; infer_instance
  rintro _ _ ⟨b3, rfl, rfl⟩
  refine AnyH.one 11 (by kernel_rfl) ?_
  refine Turn.ef rfl rfl (ef_storeK rfl rfl rfl rfl) ?_ ?_
  ·
   rintro _ _ ⟨rfl, rfl⟩; infer_instance
  rintro _ _ ⟨rfl, rfl⟩
  refine Tk 12 rfl rfl (pv_assign rfl) rfl ?_
  refine AnyH.done (by kernel_rfl) ?_
  refine Ends.seq ?_
  refine Wp.seq ?_
  refine Wp.seq ?_
  refine Wp.region ?_
  refine Ops.pv (pv_move rfl) rfl ?_
  refine Ops.pv (pv_eql rfl rfl) rfl ?_
  refine Ops.pv (pv_move rfl) rfl ?_
  refine Ops.pvc rfl rfl (fun hg => pv_fieldAddr0 rfl rfl) rfl ?_
  refine Ops.pvc rfl rfl (fun hg => Pv.setE (t := 21) rfl (cv_pos hg) (pv_load rfl rfl rfl)) rfl ?_
  refine Ops.pvc rfl rfl (fun hg => Pv.setE (t := 21) rfl (cv_pos hg) (Pv.setE (t := 22) rfl (cv_pos hg) (pv_eql rfl rfl))) rfl ?_
  refine Ops.pv (pv_pick_and rfl rfl) rfl ?_
  refine Ops.nil ?_
  refine Ends.seq ?_
  refine Wp.cond_dect rfl (fun h1 => ?_) (fun h1 => ?_)
  ·
   refine Wp.region ?_
   refine Ops.pv (pv_assign rfl) rfl ?_
   refine Ops.nil ?_
   refine Ends.seq ?_
   refine Wp.seq ?_
   refine Wp.region ?_
   refine Ops.pv (pv_loadK [_, _, _, _, _, _] rfl rfl rfl ⟨rfl, rfl, rfl, rfl, rfl, rfl, trivial⟩) rfl ?_
   refine Ops.pv (pv_move rfl) rfl ?_
   refine Ops.ef rfl (ef_storeK rfl rfl rfl rfl) ?_
   rintro _ _ ⟨rfl, rfl⟩
   refine Ops.pv (pv_assign rfl) rfl ?_
   refine Ops.nil ?_
   refine Ends.seq ?_
   refine Wp.ret ?_
   have he : mSource p so = ((dget p.l so).1, 3) := if_pos (by assumption)
   exact Ends.ret (res_list (rs := [.cell 4 24, .tmp 5]) rfl ⟨_, _, rfl, rv_cellK [_, _, _, _, _, _] rfl rfl rfl ⟨rfl, rfl, rfl, rfl, rfl, rfl, trivial⟩, ⟨_, _, rfl, rv_tmp rfl, rfl⟩⟩ rfl) ⟨by rw [he], rfl⟩
  refine Wp.skip ?_
  refine Ends.seq ?_
  refine Wp.seq ?_
  refine Wp.region ?_
  refine Ops.pv (pv_loadK [_, _, _, _, _, _] rfl rfl rfl ⟨rfl, rfl, rfl, rfl, rfl, rfl, trivial⟩) rfl ?_
  refine Ops.pv (pv_move rfl) rfl ?_
  refine Ops.ef rfl (ef_storeK rfl rfl rfl rfl) ?_
  rintro _ _ ⟨rfl, rfl⟩
  refine Ops.pv (pv_assign rfl) rfl ?_
  refine Ops.nil ?_
  refine Ends.seq ?_
  refine Wp.ret ?_
  have he : mSource p so = dget p.l so := if_neg (by assumption)
  exact Ends.ret (res_list (rs := [.cell 4 24, .tmp 5]) rfl ⟨_, _, rfl, rv_cellK [_, _, _, _, _, _] rfl rfl rfl ⟨rfl, rfl, rfl, rfl, rfl, rfl, trivial⟩, ⟨_, _, rfl, rv_tmp rfl, rfl⟩⟩ rfl) ⟨by rw [he], rfl⟩
 refine Turn.ef rfl rfl (ef_allocK tyZ24 rfl) ?_ ?_
 ·
  rintro _ _ ⟨b4, rfl, rfl⟩; infer_instance
 rintro _ _ ⟨b4, rfl, rfl⟩
 refine AnyH.one 6 (by kernel_rfl) ?_
 refine Turn.ef rfl rfl (ef_callr (sf_get hS so) rfl rfl) ?_ ?_
 ·
  rintro _ _ ⟨rfl, rfl⟩; infer_instance
 rintro _ _ ⟨rfl, rfl⟩
 refine Tk 7 rfl rfl (pv_move rfl) rfl ?_
 refine Tk 8 rfl rfl (pv_extract rfl rfl) rfl ?_
 refine Tk 9 rfl rfl (pv_extract rfl rfl) rfl ?_
 refine AnyH.one 11 (by kernel_rfl) ?_
 refine Turn.ef rfl rfl (ef_storeK rfl rfl rfl rfl) ?_ ?_
 ·
  rintro _ _ ⟨rfl, rfl⟩; infer_instance
 rintro _ _ ⟨rfl, rfl⟩
 refine Tk 12 rfl rfl (pv_assign rfl) rfl ?_
 refine AnyH.done (by kernel_rfl) ?_
 refine Ends.seq ?_
 refine Wp.seq ?_
 refine Wp.seq ?_
 refine Wp.region ?_
 refine Ops.pv (pv_move rfl) rfl ?_
 refine Ops.pv (pv_eql rfl rfl) rfl ?_
 refine Ops.pv (pv_move rfl) rfl ?_
 refine Ops.pvc rfl rfl (fun hg => pv_fieldAddr0 rfl rfl) rfl ?_
 refine Ops.pvc rfl rfl (fun hg => Pv.setE (t := 21) rfl (cv_pos hg) (pv_load rfl rfl rfl)) rfl ?_
 refine Ops.pvc rfl rfl (fun hg => Pv.setE (t := 21) rfl (cv_pos hg) (Pv.setE (t := 22) rfl (cv_pos hg) (pv_eql rfl rfl))) rfl ?_
 refine Ops.pv (pv_pick_and rfl rfl) rfl ?_
 refine Ops.nil ?_
 refine Ends.seq ?_
 refine Wp.cond_dect rfl (fun h2 => ?_) (fun h2 => ?_)
 ·
  refine Wp.region ?_
  refine Ops.pv (pv_assign rfl) rfl ?_
  refine Ops.nil ?_
  refine Ends.seq ?_
  refine Wp.seq ?_
  refine Wp.region ?_
  refine Ops.pv (pv_loadK [_, _, _, _, _, _] rfl rfl rfl ⟨rfl, rfl, rfl, rfl, rfl, rfl, trivial⟩) rfl ?_
  refine Ops.pv (pv_move rfl) rfl ?_
  refine Ops.ef rfl (ef_storeK rfl rfl rfl rfl) ?_
  rintro _ _ ⟨rfl, rfl⟩
  refine Ops.pv (pv_assign rfl) rfl ?_
  refine Ops.nil ?_
  refine Ends.seq ?_
  refine Wp.ret ?_
  have he : mSource p so = ((dget p.l so).1, 3) := if_pos (by assumption)
  exact Ends.ret (res_list (rs := [.cell 4 24, .tmp 5]) rfl ⟨_, _, rfl, rv_cellK [_, _, _, _, _, _] rfl rfl rfl ⟨rfl, rfl, rfl, rfl, rfl, rfl, trivial⟩, ⟨_, _, rfl, rv_tmp rfl, rfl⟩⟩ rfl) ⟨by rw [he], rfl⟩
 refine Wp.skip ?_
 refine Ends.seq ?_
 refine Wp.seq ?_
 refine Wp.region ?_
 refine Ops.pv (pv_loadK [_, _, _, _, _, _] rfl rfl rfl ⟨rfl, rfl, rfl, rfl, rfl, rfl, trivial⟩) rfl ?_
 refine Ops.pv (pv_move rfl) rfl ?_
 refine Ops.ef rfl (ef_storeK rfl rfl rfl rfl) ?_
 rintro _ _ ⟨rfl, rfl⟩
 refine Ops.pv (pv_assign rfl) rfl ?_
 refine Ops.nil ?_
 refine Ends.seq ?_
 refine Wp.ret ?_
 have he : mSource p so = dget p.l so := if_neg (by assumption)
 exact Ends.ret (res_list (rs := [.cell 4 24, .tmp 5]) rfl ⟨_, _, rfl, rv_cellK [_, _, _, _, _, _] rfl rfl rfl ⟨rfl, rfl, rfl, rfl, rfl, rfl, trivial⟩, ⟨_, _, rfl, rv_tmp rfl, rfl⟩⟩ rfl) ⟨by rw [he], rfl⟩
theorem tr_mPlace (n cb : Nat) (L : Hp) (p : PS) (hH : CapsH n p cb L) (so : SlotM) : TrR Try.prog 52 [cpP cb, slotV so] (L) (.int .i64 (mPlace p so)) := by
 obtain ⟨sb, tb, Ls, Lt, hS, hT, rfl⟩ := hH
 refine Tr.enter Try.func52 rfl Try.ntmps52 rfl (fun W F => ?_)
 refine Wp.app ?_
 refine Wp.seq ?_
 refine Wp.region ?_
 refine Ops.ef rfl (ef_boxK rfl rfl) ?_
 rintro _ _ ⟨b1, rfl, rfl⟩
 refine Ops.pv (pv_assign rfl) rfl ?_
 refine Ops.nil ?_
 refine Ends.seq ?_
 refine Wp.seq ?_
 refine AnyH.start ((b1, .cells [.int .i64 so.1, .int .i64 so.2].toArray 38) :: cBlk cb sb tb :: []) 13 rfl ?_
 refine Tk 0 rfl rfl (pv_move rfl) rfl ?_
 refine Tk 1 rfl rfl (pv_nilCheck rfl) rfl ?_
 refine Tk 2 rfl rfl (pv_fieldAddr0 rfl rfl) rfl ?_
 refine Tk 3 rfl rfl (pv_fieldAddr0 rfl rfl) rfl ?_
 refine Tk 4 rfl rfl (pv_load rfl rfl rfl) rfl ?_
 refine Tk 5 rfl rfl (pv_loadK [_, _] rfl rfl rfl ⟨rfl, rfl, trivial⟩) rfl ?_
 refine AnyH.two 6 10 (by kernel_rfl) ?_ ?_
 ·
  refine Turn.ef rfl rfl (ef_callr (sf_get hS so) rfl rfl) ?_ ?_
  ·
   rintro _ _ ⟨rfl, rfl⟩; infer_instance
  rintro _ _ ⟨rfl, rfl⟩
  refine Tk 7 rfl rfl (pv_move rfl) rfl ?_
  refine Tk 8 rfl rfl (pv_extract rfl rfl) rfl ?_
  refine Tk 9 rfl rfl (pv_extract rfl rfl) rfl ?_
  refine AnyH.one 10 (by kernel_rfl) ?_
  refine Turn.ef rfl rfl (ef_allocK tyZ24 rfl) ?_ ?_
  ·
   rintro _ _ ⟨b2, rfl, rfl⟩; infer_instance
  rintro _ _ ⟨b2, rfl, rfl⟩
  refine AnyH.one 11 (by kernel_rfl) ?_
  refine Turn.ef rfl rfl (ef_storeK rfl rfl rfl rfl) ?_ ?_
  ·
   rintro _ _ ⟨rfl, rfl⟩; infer_instance
  rintro _ _ ⟨rfl, rfl⟩
  refine Tk 12 rfl rfl (pv_assign rfl) rfl ?_
  refine AnyH.done (by kernel_rfl) ?_
  refine Ends.seq ?_
  refine Wp.seq ?_
  refine Wp.seq ?_
  refine Wp.region ?_
  refine Ops.pv (pv_move rfl) rfl ?_
  refine Ops.pv (pv_eql rfl rfl) rfl ?_
  refine Ops.pv (pv_move rfl) rfl ?_
  refine Ops.pvc rfl rfl (fun hg => pv_fieldAddr0 rfl rfl) rfl ?_
  refine Ops.pvc rfl rfl (fun hg => Pv.setE (t := 20) rfl (cv_pos hg) (pv_load rfl rfl rfl)) rfl ?_
  refine Ops.pvc rfl rfl (fun hg => Pv.setE (t := 20) rfl (cv_pos hg) (Pv.setE (t := 21) rfl (cv_pos hg) (pv_neq rfl rfl))) rfl ?_
  refine Ops.pv (pv_pick_and rfl rfl) rfl ?_
  refine Ops.nil ?_
  refine Ends.seq ?_
  refine Wp.cond_dect rfl (fun h1 => ?_) (fun h1 => ?_)
  ·
   refine Wp.region ?_
   refine Ops.pv (pv_assign rfl) rfl ?_
   refine Ops.nil ?_
   refine Ends.seq ?_
   refine Wp.seq ?_
   refine Wp.region ?_
   refine Ops.pv (pv_move rfl) rfl ?_
   refine Ops.pv (pv_assign rfl) rfl ?_
   refine Ops.nil ?_
   refine Ends.seq ?_
   refine Wp.ret ?_
   have he : mPlace p so = 4 := if_pos (by assumption)
   exact Ends.ret (res1 rfl rfl) ⟨by rw [he], rfl⟩
  refine Wp.skip ?_
  refine Ends.seq ?_
  refine Wp.seq ?_
  refine Wp.region ?_
  refine Ops.pv (pv_move rfl) rfl ?_
  refine Ops.pv (pv_assign rfl) rfl ?_
  refine Ops.nil ?_
  refine Ends.seq ?_
  refine Wp.ret ?_
  have he : mPlace p so = (dget p.l so).2 := if_neg (by assumption)
  exact Ends.ret (res1 rfl rfl) ⟨by rw [he], rfl⟩
 refine Turn.ef rfl rfl (ef_allocK tyZ24 rfl) ?_ ?_
 ·
  rintro _ _ ⟨b3, rfl, rfl⟩; infer_instance
 rintro _ _ ⟨b3, rfl, rfl⟩
 refine AnyH.one 6 (by kernel_rfl) ?_
 refine Turn.ef rfl rfl (ef_callr (sf_get hS so) rfl rfl) ?_ ?_
 ·
  rintro _ _ ⟨rfl, rfl⟩; infer_instance
 rintro _ _ ⟨rfl, rfl⟩
 refine Tk 7 rfl rfl (pv_move rfl) rfl ?_
 refine Tk 8 rfl rfl (pv_extract rfl rfl) rfl ?_
 refine Tk 9 rfl rfl (pv_extract rfl rfl) rfl ?_
 refine AnyH.one 11 (by kernel_rfl) ?_
 refine Turn.ef rfl rfl (ef_storeK rfl rfl rfl rfl) ?_ ?_
 ·
  rintro _ _ ⟨rfl, rfl⟩; infer_instance
 rintro _ _ ⟨rfl, rfl⟩
 refine Tk 12 rfl rfl (pv_assign rfl) rfl ?_
 refine AnyH.done (by kernel_rfl) ?_
 refine Ends.seq ?_
 refine Wp.seq ?_
 refine Wp.seq ?_
 refine Wp.region ?_
 refine Ops.pv (pv_move rfl) rfl ?_
 refine Ops.pv (pv_eql rfl rfl) rfl ?_
 refine Ops.pv (pv_move rfl) rfl ?_
 refine Ops.pvc rfl rfl (fun hg => pv_fieldAddr0 rfl rfl) rfl ?_
 refine Ops.pvc rfl rfl (fun hg => Pv.setE (t := 20) rfl (cv_pos hg) (pv_load rfl rfl rfl)) rfl ?_
 refine Ops.pvc rfl rfl (fun hg => Pv.setE (t := 20) rfl (cv_pos hg) (Pv.setE (t := 21) rfl (cv_pos hg) (pv_neq rfl rfl))) rfl ?_
 refine Ops.pv (pv_pick_and rfl rfl) rfl ?_
 refine Ops.nil ?_
 refine Ends.seq ?_
 refine Wp.cond_dect rfl (fun h2 => ?_) (fun h2 => ?_)
 ·
  refine Wp.region ?_
  refine Ops.pv (pv_assign rfl) rfl ?_
  refine Ops.nil ?_
  refine Ends.seq ?_
  refine Wp.seq ?_
  refine Wp.region ?_
  refine Ops.pv (pv_move rfl) rfl ?_
  refine Ops.pv (pv_assign rfl) rfl ?_
  refine Ops.nil ?_
  refine Ends.seq ?_
  refine Wp.ret ?_
  have he : mPlace p so = 4 := if_pos (by assumption)
  exact Ends.ret (res1 rfl rfl) ⟨by rw [he], rfl⟩
 refine Wp.skip ?_
 refine Ends.seq ?_
 refine Wp.seq ?_
 refine Wp.region ?_
 refine Ops.pv (pv_move rfl) rfl ?_
 refine Ops.pv (pv_assign rfl) rfl ?_
 refine Ops.nil ?_
 refine Ends.seq ?_
 refine Wp.ret ?_
 have he : mPlace p so = (dget p.l so).2 := if_neg (by assumption)
 exact Ends.ret (res1 rfl rfl) ⟨by rw [he], rfl⟩
theorem tr_mBoth (n cb : Nat) (L : Hp) (p : PS) (hH : CapsH n p cb L) (so de : SlotM) : TrR Try.prog 48 [cpP cb, slotV so, slotV de] (L) (.tuple #[(mBoth p so de).1.v, .int .i64 (mBoth p so de).2]) := by
 refine Tr.enter Try.func48 rfl Try.ntmps48 rfl (fun W F => ?_)
 refine Wp.app ?_
 refine Wp.seq ?_
 refine Wp.region ?_
 refine Ops.ef rfl (ef_boxK rfl rfl) ?_
 rintro _ _ ⟨b1, rfl, rfl⟩
 refine Ops.ef rfl (ef_boxK rfl rfl) ?_
 rintro _ _ ⟨b2, rfl, rfl⟩
 refine Ops.ef rfl (ef_allocK tyZ24 rfl) ?_
 rintro _ _ ⟨b3, rfl, rfl⟩
 refine Ops.pv (pv_assign rfl) rfl ?_
 refine Ops.nil ?_
 refine Ends.seq ?_
 refine Wp.seq ?_
 refine Wp.region ?_
 refine Ops.pv (pv_move rfl) rfl ?_
 refine Ops.pv (pv_loadK [_, _] rfl rfl rfl ⟨rfl, rfl, trivial⟩) rfl ?_
 refine Ops.ef rfl (ef_callr (tr_mSource n cb L p hH so) rfl rfl) ?_
 rintro _ _ ⟨rfl, rfl⟩
 refine Ops.pv (pv_move rfl) rfl ?_
 refine Ops.pv (pv_extract rfl rfl) rfl ?_
 refine Ops.pv (pv_extract rfl rfl) rfl ?_
 refine Ops.ef rfl (ef_allocK tyZ24 rfl) ?_
 rintro _ _ ⟨b4, rfl, rfl⟩
 refine Ops.ef rfl (ef_storeK rfl rfl rfl rfl) ?_
 rintro _ _ ⟨rfl, rfl⟩
 refine Ops.pv (pv_assign rfl) rfl ?_
 refine Ops.nil ?_
 refine Ends.seq ?_
 refine Wp.seq ?_
 refine Wp.seq ?_
 refine Wp.region ?_
 refine Ops.pv (pv_move rfl) rfl ?_
 refine Ops.pv (pv_eql rfl rfl) rfl ?_
 refine Ops.nil ?_
 refine Ends.seq ?_
 refine Wp.cond_dect rfl (fun h1 => ?_) (fun h1 => ?_)
 ·
  refine Wp.region ?_
  refine Ops.pv (pv_move rfl) rfl ?_
  refine Ops.pv (pv_loadK [_, _] rfl rfl rfl ⟨rfl, rfl, trivial⟩) rfl ?_
  refine Ops.ef rfl (ef_callr (tr_mPlace n cb L p hH de) rfl rfl) ?_
  rintro _ _ ⟨rfl, rfl⟩
  refine Ops.pv (pv_assign rfl) rfl ?_
  refine Ops.nil ?_
  refine Ends.seq ?_
  refine Wp.seq ?_
  refine Wp.region ?_
  refine Ops.pv (pv_loadK [_, _, _, _, _, _] rfl rfl rfl ⟨rfl, rfl, rfl, rfl, rfl, rfl, trivial⟩) rfl ?_
  refine Ops.pv (pv_move rfl) rfl ?_
  refine Ops.ef rfl (ef_storeK rfl rfl rfl rfl) ?_
  rintro _ _ ⟨rfl, rfl⟩
  refine Ops.pv (pv_assign rfl) rfl ?_
  refine Ops.nil ?_
  refine Ends.seq ?_
  refine Wp.ret ?_
  have he : mBoth p so de = ((mSource p so).1, mPlace p de) := by unfold mBoth; rw [if_pos (by assumption)]
  exact Ends.ret (res_list (rs := [.cell 6 24, .tmp 7]) rfl ⟨_, _, rfl, rv_cellK [_, _, _, _, _, _] rfl rfl rfl ⟨rfl, rfl, rfl, rfl, rfl, rfl, trivial⟩, ⟨_, _, rfl, rv_tmp rfl, rfl⟩⟩ rfl) ⟨by rw [he], rfl⟩
 refine Wp.skip ?_
 refine Ends.seq ?_
 refine Wp.seq ?_
 refine Wp.region ?_
 refine Ops.pv (pv_loadK [_, _, _, _, _, _] rfl rfl rfl ⟨rfl, rfl, rfl, rfl, rfl, rfl, trivial⟩) rfl ?_
 refine Ops.pv (pv_move rfl) rfl ?_
 refine Ops.ef rfl (ef_storeK rfl rfl rfl rfl) ?_
 rintro _ _ ⟨rfl, rfl⟩
 refine Ops.pv (pv_assign rfl) rfl ?_
 refine Ops.nil ?_
 refine Ends.seq ?_
 refine Wp.ret ?_
 have he : mBoth p so de = ((mSource p so).1, (mSource p so).2) := by unfold mBoth; rw [if_neg (by assumption)]
 exact Ends.ret (res_list (rs := [.cell 6 24, .tmp 7]) rfl ⟨_, _, rfl, rv_cellK [_, _, _, _, _, _] rfl rfl rfl ⟨rfl, rfl, rfl, rfl, rfl, rfl, trivial⟩, ⟨_, _, rfl, rv_tmp rfl, rfl⟩⟩ rfl) ⟨by rw [he], rfl⟩
theorem tr_mKin (n cb : Nat) (L : Hp) (p : PS) (hH : CapsH n p cb L) (hn : n ≤ 2 ^ 19) (so : SlotM) : Tr Try.prog 18 [cpP cb, slotV so] (L) (fun u L' => ∃ K, Slc 38 2 u (ftKin p.F so).length (slotsCells (ftKin p.F so)) K ∧ L' = K ++ L) := by
 obtain ⟨sb, tb, Ls, Lt, hS, hT, rfl⟩ := hH
 refine Tr.enter Try.func18 rfl Try.ntmps18 rfl (fun W F => ?_)
 refine Wp.app ?_
 refine Wp.seq ?_
 refine Wp.region ?_
 refine Ops.ef rfl (ef_boxK rfl rfl) ?_
 rintro _ _ ⟨b1, rfl, rfl⟩
 refine Ops.pv (pv_assign rfl) rfl ?_
 refine Ops.nil ?_
 refine Ends.seq ?_
 refine Wp.seq ?_
 refine AnyH.start ((b1, .cells [.int .i64 so.1, .int .i64 so.2].toArray 38) :: cBlk cb sb tb :: []) 7 rfl ?_
 refine Tk 0 rfl rfl (pv_move rfl) rfl ?_
 refine Tk 1 rfl rfl (pv_nilCheck rfl) rfl ?_
 refine Tk 2 rfl rfl (pv_fieldAddr0 rfl rfl) rfl ?_
 refine Tk 3 rfl rfl (pv_load rfl rfl rfl) rfl ?_
 refine Tk 4 rfl rfl (pv_loadK [_, _] rfl rfl rfl ⟨rfl, rfl, trivial⟩) rfl ?_
 refine AnyH.one 5 (by kernel_rfl) ?_
 refine Turn.ef rfl rfl (ef_call (tr_fKin hT (by omega) so) rfl rfl) ?_ ?_
 ·
  rintro _ _ ⟨_, _, ⟨C1, hc1, rfl⟩, rfl, rfl⟩; infer_instance
 rintro _ _ ⟨_, _, ⟨C1, hc1, rfl⟩, rfl, rfl⟩
 refine AnyH.app ?_
 obtain ⟨pp1, qq1, rfl⟩ := hc1.form
 refine Tk 6 rfl rfl (pv_assign rfl) rfl ?_
 refine AnyH.done (by kernel_rfl) ?_
 refine Ends.seq ?_
 refine Wp.ret ?_
 exact Ends.ret (L' := C1 ++ (cBlk cb sb tb :: (Ls ++ Lt))) (res1 rfl rfl) ⟨C1, hc1, rfl⟩
theorem tr_mPlant (n cb : Nat) (L : Hp) (p : PS) (hH : CapsH n p cb L) (so : SlotM) (c : CapM) : Tr Try.prog 15 [cpP cb, slotV so, c.v] (L) (fun u L' => u = .int .i64 (mPlant p so c).1 ∧ CapsH (n + 1) (mPlant p so c).2 cb L') := by
 obtain ⟨sb, tb, Ls, Lt, hS, hT, rfl⟩ := hH
 refine Tr.enter Try.func15 rfl Try.ntmps15 rfl (fun W F => ?_)
 refine Wp.app ?_
 refine Wp.seq ?_
 refine Wp.region ?_
 refine Ops.ef rfl (ef_boxK rfl rfl) ?_
 rintro _ _ ⟨b1, rfl, rfl⟩
 refine Ops.ef rfl (ef_boxK rfl rfl) ?_
 rintro _ _ ⟨b2, rfl, rfl⟩
 refine Ops.pv (pv_assign rfl) rfl ?_
 refine Ops.nil ?_
 refine Ends.seq ?_
 refine Wp.seq ?_
 refine AnyH.start ((b2, .cells c.cells.toArray 24) :: (b1, .cells [.int .i64 so.1, .int .i64 so.2].toArray 38) :: cBlk cb sb tb :: []) 9 rfl ?_
 refine Tk 0 rfl rfl (pv_move rfl) rfl ?_
 refine Tk 1 rfl rfl (pv_nilCheck rfl) rfl ?_
 refine Tk 2 rfl rfl (pv_fieldAddr0 rfl rfl) rfl ?_
 refine Tk 3 rfl rfl (pv_fieldAddr0 rfl rfl) rfl ?_
 refine Tk 4 rfl rfl (pv_load rfl rfl rfl) rfl ?_
 refine Tk 5 rfl rfl (pv_loadK [_, _] rfl rfl rfl ⟨rfl, rfl, trivial⟩) rfl ?_
 refine Tk 6 rfl rfl (pv_loadK [_, _, _, _, _, _] rfl rfl rfl ⟨rfl, rfl, rfl, rfl, rfl, rfl, trivial⟩) rfl ?_
 refine AnyH.one 7 (by kernel_rfl) ?_
 refine Turn.ef rfl rfl (ef_call (sf_put hS so c) rfl rfl) ?_ ?_
 ·
  rintro _ _ ⟨_, Q1, ⟨rfl, hS2⟩, rfl, rfl⟩; infer_instance
 rintro _ _ ⟨_, Q1, ⟨rfl, hS2⟩, rfl, rfl⟩
 refine AnyH.app ?_
 skip
 refine Tk 8 rfl rfl (pv_assign rfl) rfl ?_
 refine AnyH.done (by kernel_rfl) ?_
 refine Ends.seq ?_
 refine Wp.seq ?_
 refine Wp.seq ?_
 refine Wp.region ?_
 refine Ops.pv (pv_move rfl) rfl ?_
 refine Ops.pv (pv_eql rfl rfl) rfl ?_
 refine Ops.nil ?_
 refine Ends.seq ?_
 refine Wp.cond_dect rfl (fun h1 => ?_) (fun h1 => ?_)
 ·
  refine AnyH.start ((b1, .cells [.int .i64 so.1, .int .i64 so.2].toArray 38) :: cBlk cb sb tb :: []) 6 rfl ?_
  refine Tk 0 rfl rfl (pv_move rfl) rfl ?_
  refine Tk 1 rfl rfl (pv_nilCheck rfl) rfl ?_
  refine Tk 2 rfl rfl (pv_fieldAddr0 rfl rfl) rfl ?_
  refine Tk 3 rfl rfl (pv_load rfl rfl rfl) rfl ?_
  refine Tk 4 rfl rfl (pv_loadK [_, _] rfl rfl rfl ⟨rfl, rfl, trivial⟩) rfl ?_
  refine AnyH.one 5 (by kernel_rfl) ?_
  refine Turn.ef rfl rfl (ef_call (tr_fRoot hT so) rfl rfl) ?_ ?_
  ·
   rintro _ _ ⟨_, R1, ⟨rfl, hT2⟩, rfl, rfl⟩; infer_instance
  rintro _ _ ⟨_, R1, ⟨rfl, hT2⟩, rfl, rfl⟩
  refine AnyH.app ?_
  skip
  refine AnyH.done (by kernel_rfl) ?_
  refine Ends.seq ?_
  refine Wp.seq ?_
  refine Wp.region ?_
  refine Ops.pv (pv_move rfl) rfl ?_
  refine Ops.pv (pv_assign rfl) rfl ?_
  refine Ops.nil ?_
  refine Ends.seq ?_
  refine Wp.ret ?_
  have he : mPlant p so c = ((dput p.l so c).1, ⟨(dput p.l so c).2, (ftRoot p.F so).2⟩) := by unfold mPlant; rw [if_pos (by assumption)]
  rw [he]
  exact Ends.ret (L' := cBlk cb sb tb :: (Q1 ++ R1)) (res1 rfl rfl) ⟨rfl, sb, tb, Q1, R1, hS2, hT2, rfl⟩
 refine Wp.skip ?_
 refine Ends.seq ?_
 refine Wp.seq ?_
 refine Wp.region ?_
 refine Ops.pv (pv_move rfl) rfl ?_
 refine Ops.pv (pv_assign rfl) rfl ?_
 refine Ops.nil ?_
 refine Ends.seq ?_
 refine Wp.ret ?_
 have he : mPlant p so c = ((dput p.l so c).1, ⟨(dput p.l so c).2, p.F⟩) := by unfold mPlant; rw [if_neg (by assumption)]
 rw [he]
 exact Ends.ret (L' := cBlk cb sb tb :: (Q1 ++ Lt)) (res1 rfl rfl) ⟨rfl, sb, tb, Q1, Lt, hS2, hT.more (by omega), rfl⟩
theorem tr_mChild (n cb : Nat) (L : Hp) (p : PS) (hH : CapsH n p cb L) (hn : n ≤ 2 ^ 19) (so de : SlotM) (c : CapM) : Tr Try.prog 24 [cpP cb, slotV so, slotV de, c.v] (L) (fun u L' => u = .int .i64 (mChild p so de c).1 ∧ CapsH (n + 1) (mChild p so de c).2 cb L') := by
 have hH0 := hH
 obtain ⟨sb, tb, Ls, Lt, hS, hT, rfl⟩ := hH
 refine Tr.enter Try.func24 rfl Try.ntmps24 rfl (fun W F => ?_)
 refine Wp.app ?_
 refine Wp.seq ?_
 refine Wp.region ?_
 refine Ops.ef rfl (ef_boxK rfl rfl) ?_
 rintro _ _ ⟨b1, rfl, rfl⟩
 refine Ops.ef rfl (ef_boxK rfl rfl) ?_
 rintro _ _ ⟨b2, rfl, rfl⟩
 refine Ops.ef rfl (ef_boxK rfl rfl) ?_
 rintro _ _ ⟨b3, rfl, rfl⟩
 refine Ops.pv (pv_assign rfl) rfl ?_
 refine Ops.nil ?_
 refine Ends.seq ?_
 refine Wp.seq ?_
 refine Wp.seq ?_
 refine Wp.region ?_
 refine Ops.pv (pv_move rfl) rfl ?_
 refine Ops.pv (pv_loadK [_, _] rfl rfl rfl ⟨rfl, rfl, trivial⟩) rfl ?_
 refine Ops.pv (pv_loadK [_, _] rfl rfl rfl ⟨rfl, rfl, trivial⟩) rfl ?_
 refine Ops.ef rfl (ef_callr (tr_mBoth n cb (cBlk cb sb tb :: (Ls ++ Lt)) p hH0 so de) rfl rfl) ?_
 rintro _ _ ⟨rfl, rfl⟩
 refine Ops.pv (pv_move rfl) rfl ?_
 refine Ops.pv (pv_extract rfl rfl) rfl ?_
 refine Ops.pv (pv_extract rfl rfl) rfl ?_
 refine Ops.ef rfl (ef_allocK tyZ24 rfl) ?_
 rintro _ _ ⟨b4, rfl, rfl⟩
 refine Ops.ef rfl (ef_storeK rfl rfl rfl rfl) ?_
 rintro _ _ ⟨rfl, rfl⟩
 refine Ops.pv (pv_assign rfl) rfl ?_
 refine Ops.nil ?_
 refine Ends.seq ?_
 refine Wp.seq ?_
 refine Wp.region ?_
 refine Ops.pv (pv_move rfl) rfl ?_
 refine Ops.pv (pv_neq rfl rfl) rfl ?_
 refine Ops.nil ?_
 refine Ends.seq ?_
 refine Wp.cond_dect rfl (fun h1 => ?_) (fun h1 => ?_)
 ·
  refine Wp.seq ?_
  refine Wp.region ?_
  refine Ops.pv (pv_move rfl) rfl ?_
  refine Ops.pv (pv_assign rfl) rfl ?_
  refine Ops.nil ?_
  refine Ends.seq ?_
  refine Wp.ret ?_
  refine Ends.then_ret ?_
  have he : mChild p so de c = ((mBoth p so de).2, p) := by unfold mChild; rw [if_pos (by assumption)]
  rw [he]
  exact Ends.ret (L' := (cBlk cb sb tb :: (Ls ++ Lt))) (res1 rfl rfl) ⟨rfl, sb, tb, Ls, Lt, hS, hT.more (by omega), rfl⟩
 refine Wp.skip ?_
 refine Ends.seq ?_
 refine Wp.seq ?_
 refine AnyH.start ((b3, .cells c.cells.toArray 24) :: (b2, .cells [.int .i64 de.1, .int .i64 de.2].toArray 38) :: cBlk cb sb tb :: []) 9 rfl ?_
 refine Tk 0 rfl rfl (pv_move rfl) rfl ?_
 refine Tk 1 rfl rfl (pv_nilCheck rfl) rfl ?_
 refine Tk 2 rfl rfl (pv_fieldAddr0 rfl rfl) rfl ?_
 refine Tk 3 rfl rfl (pv_fieldAddr0 rfl rfl) rfl ?_
 refine Tk 4 rfl rfl (pv_load rfl rfl rfl) rfl ?_
 refine Tk 5 rfl rfl (pv_loadK [_, _] rfl rfl rfl ⟨rfl, rfl, trivial⟩) rfl ?_
 refine Tk 6 rfl rfl (pv_loadK [_, _, _, _, _, _] rfl rfl rfl ⟨rfl, rfl, rfl, rfl, rfl, rfl, trivial⟩) rfl ?_
 refine AnyH.one 7 (by kernel_rfl) ?_
 refine Turn.ef rfl rfl (ef_call (sf_put hS de c) rfl rfl) ?_ ?_
 ·
  rintro _ _ ⟨_, Q1, ⟨rfl, hS2⟩, rfl, rfl⟩; infer_instance
 rintro _ _ ⟨_, Q1, ⟨rfl, hS2⟩, rfl, rfl⟩
 refine AnyH.app ?_
 skip
 refine Tk 8 rfl rfl (pv_assign rfl) rfl ?_
 refine AnyH.done (by kernel_rfl) ?_
 refine Ends.seq ?_
 refine Wp.seq ?_
 refine Wp.seq ?_
 refine Wp.region ?_
 refine Ops.pv (pv_move rfl) rfl ?_
 refine Ops.pv (pv_eql rfl rfl) rfl ?_
 refine Ops.nil ?_
 refine Ends.seq ?_
 refine Wp.cond_dect rfl (fun h2 => ?_) (fun h2 => ?_)
 ·
  refine AnyH.start ((b2, .cells [.int .i64 de.1, .int .i64 de.2].toArray 38) :: (b1, .cells [.int .i64 so.1, .int .i64 so.2].toArray 38) :: cBlk cb sb tb :: []) 7 rfl ?_
  refine Tk 0 rfl rfl (pv_move rfl) rfl ?_
  refine Tk 1 rfl rfl (pv_nilCheck rfl) rfl ?_
  refine Tk 2 rfl rfl (pv_fieldAddr0 rfl rfl) rfl ?_
  refine Tk 3 rfl rfl (pv_load rfl rfl rfl) rfl ?_
  refine Tk 4 rfl rfl (pv_loadK [_, _] rfl rfl rfl ⟨rfl, rfl, trivial⟩) rfl ?_
  refine Tk 5 rfl rfl (pv_loadK [_, _] rfl rfl rfl ⟨rfl, rfl, trivial⟩) rfl ?_
  refine AnyH.one 6 (by kernel_rfl) ?_
  refine Turn.ef rfl rfl (ef_call (tr_fChild hT (by omega) so de) rfl rfl) ?_ ?_
  ·
   rintro _ _ ⟨_, R1, ⟨rfl, hT2⟩, rfl, rfl⟩; infer_instance
  rintro _ _ ⟨_, R1, ⟨rfl, hT2⟩, rfl, rfl⟩
  refine AnyH.app ?_
  skip
  refine AnyH.done (by kernel_rfl) ?_
  refine Ends.seq ?_
  refine Wp.seq ?_
  refine Wp.region ?_
  refine Ops.pv (pv_move rfl) rfl ?_
  refine Ops.pv (pv_assign rfl) rfl ?_
  refine Ops.nil ?_
  refine Ends.seq ?_
  refine Wp.ret ?_
  have he : mChild p so de c = ((dput p.l de c).1, ⟨(dput p.l de c).2, (ftChild p.F so de).2⟩) := by unfold mChild; rw [if_neg (by assumption), if_pos (by assumption)]
  rw [he]
  exact Ends.ret (L' := cBlk cb sb tb :: (Q1 ++ R1)) (res1 rfl rfl) ⟨rfl, sb, tb, Q1, R1, hS2, hT2, rfl⟩
 refine Wp.skip ?_
 refine Ends.seq ?_
 refine Wp.seq ?_
 refine Wp.region ?_
 refine Ops.pv (pv_move rfl) rfl ?_
 refine Ops.pv (pv_assign rfl) rfl ?_
 refine Ops.nil ?_
 refine Ends.seq ?_
 refine Wp.ret ?_
 have he : mChild p so de c = ((dput p.l de c).1, ⟨(dput p.l de c).2, p.F⟩) := by unfold mChild; rw [if_neg (by assumption), if_neg (by assumption)]
 rw [he]
 exact Ends.ret (L' := cBlk cb sb tb :: (Q1 ++ Lt)) (res1 rfl rfl) ⟨rfl, sb, tb, Q1, Lt, hS2, hT.more (by omega), rfl⟩
theorem CapsH.more {n m cb : Nat} {L : Hp} {p : PS} (h : CapsH n p cb L) (hm : n ≤ m) : CapsH m p cb L := by
 obtain ⟨sb, tb, Ls, Lt, hS, hT, rfl⟩ := h
 exact ⟨sb, tb, Ls, Lt, hS, hT.more hm, rfl⟩
theorem tr_mMint (n cb : Nat) (L : Hp) (p : PS) (hH : CapsH n p cb L) (hn : n ≤ 2 ^ 19) (so de : SlotM) (r bd g k : Int) : Tr Try.prog 25 [cpP cb, slotV so, slotV de, .int .i64 r, .int .u64 bd, .int .u64 g, .int .i64 k] (L) (fun u L' => u = .int .i64 (mMint p so de r bd g k).1 ∧ CapsH (n + 1) (mMint p so de r bd g k).2 cb L') := by
 refine Tr.enter Try.func25 rfl Try.ntmps25 rfl (fun W F => ?_)
 refine Wp.app ?_
 refine Wp.seq ?_
 refine Wp.region ?_
 refine Ops.ef rfl (ef_boxK rfl rfl) ?_
 rintro _ _ ⟨b1, rfl, rfl⟩
 refine Ops.ef rfl (ef_boxK rfl rfl) ?_
 rintro _ _ ⟨b2, rfl, rfl⟩
 refine Ops.pv (pv_assign rfl) rfl ?_
 refine Ops.nil ?_
 refine Ends.seq ?_
 refine Wp.seq ?_
 refine Wp.region ?_
 refine Ops.pv (pv_move rfl) rfl ?_
 refine Ops.pv (pv_loadK [_, _] rfl rfl rfl ⟨rfl, rfl, trivial⟩) rfl ?_
 refine Ops.pv (pv_loadK [_, _] rfl rfl rfl ⟨rfl, rfl, trivial⟩) rfl ?_
 refine Ops.ef rfl (ef_callr (tr_mBoth n cb L p hH so de) rfl rfl) ?_
 rintro _ _ ⟨rfl, rfl⟩
 refine Ops.pv (pv_move rfl) rfl ?_
 refine Ops.pv (pv_extract rfl rfl) rfl ?_
 refine Ops.pv (pv_extract rfl rfl) rfl ?_
 refine Ops.ef rfl (ef_allocK tyZ24 rfl) ?_
 rintro _ _ ⟨b3, rfl, rfl⟩
 refine Ops.ef rfl (ef_storeK rfl rfl rfl rfl) ?_
 rintro _ _ ⟨rfl, rfl⟩
 refine Ops.pv (pv_assign rfl) rfl ?_
 refine Ops.nil ?_
 refine Ends.seq ?_
 refine Wp.seq ?_
 refine Wp.seq ?_
 refine Wp.region ?_
 refine Ops.pv (pv_move rfl) rfl ?_
 refine Ops.pv (pv_neq rfl rfl) rfl ?_
 refine Ops.nil ?_
 refine Ends.seq ?_
 refine Wp.cond_dect rfl (fun h1 => ?_) (fun h1 => ?_)
 ·
  refine Wp.seq ?_
  refine Wp.region ?_
  refine Ops.pv (pv_move rfl) rfl ?_
  refine Ops.pv (pv_assign rfl) rfl ?_
  refine Ops.nil ?_
  refine Ends.seq ?_
  refine Wp.ret ?_
  refine Ends.then_ret ?_
  have he : mMint p so de r bd g k = ((mBoth p so de).2, p) := by unfold mMint; rw [if_pos (by assumption)]
  rw [he]
  exact Ends.ret (L' := L) (res1 rfl rfl) ⟨rfl, hH.more (by omega)⟩
 refine Wp.skip ?_
 refine Ends.seq ?_
 refine Wp.seq ?_
 refine Wp.region ?_
 refine Ops.pv (pv_loadK [_, _, _, _, _, _] rfl rfl rfl ⟨rfl, rfl, rfl, rfl, rfl, rfl, trivial⟩) rfl ?_
 refine Ops.pv (pv_move rfl) rfl ?_
 refine Ops.pv (pv_move rfl) rfl ?_
 refine Ops.pv (pv_move rfl) rfl ?_
 refine Ops.pv (pv_move rfl) rfl ?_
 refine Ops.ef rfl (ef_callr (tr_derive (mBoth p so de).1 r bd g k) rfl rfl) ?_
 rintro _ _ ⟨rfl, rfl⟩
 refine Ops.pv (pv_move rfl) rfl ?_
 refine Ops.pv (pv_extract rfl rfl) rfl ?_
 refine Ops.pv (pv_extract rfl rfl) rfl ?_
 refine Ops.ef rfl (ef_allocK tyZ24 rfl) ?_
 rintro _ _ ⟨b4, rfl, rfl⟩
 refine Ops.ef rfl (ef_storeK rfl rfl rfl rfl) ?_
 rintro _ _ ⟨rfl, rfl⟩
 refine Ops.pv (pv_assign rfl) rfl ?_
 refine Ops.nil ?_
 refine Ends.seq ?_
 refine Wp.seq ?_
 refine Wp.seq ?_
 refine Wp.region ?_
 refine Ops.pv (pv_move rfl) rfl ?_
 refine Ops.pv (pv_neq rfl rfl) rfl ?_
 refine Ops.nil ?_
 refine Ends.seq ?_
 refine Wp.cond_dect rfl (fun h2 => ?_) (fun h2 => ?_)
 ·
  refine Wp.seq ?_
  refine Wp.region ?_
  refine Ops.pv (pv_move rfl) rfl ?_
  refine Ops.pv (pv_assign rfl) rfl ?_
  refine Ops.nil ?_
  refine Ends.seq ?_
  refine Wp.ret ?_
  refine Ends.then_ret ?_
  have he : mMint p so de r bd g k = ((derive (mBoth p so de).1 r bd g k).2, p) := by unfold mMint; rw [if_neg (by assumption), if_pos (by assumption)]
  rw [he]
  exact Ends.ret (L' := L) (res1 rfl rfl) ⟨rfl, hH.more (by omega)⟩
 refine Wp.skip ?_
 refine Ends.seq ?_
 refine Wp.seq ?_
 refine Wp.region ?_
 refine Ops.pv (pv_move rfl) rfl ?_
 refine Ops.pv (pv_loadK [_, _] rfl rfl rfl ⟨rfl, rfl, trivial⟩) rfl ?_
 refine Ops.pv (pv_loadK [_, _] rfl rfl rfl ⟨rfl, rfl, trivial⟩) rfl ?_
 refine Ops.pv (pv_loadK [_, _, _, _, _, _] rfl rfl rfl ⟨rfl, rfl, rfl, rfl, rfl, rfl, trivial⟩) rfl ?_
 refine Ops.ef rfl (ef_call (tr_mChild n cb L p hH hn so de (derive (mBoth p so de).1 r bd g k).1) rfl rfl) ?_
 rintro _ _ ⟨_, Q1, ⟨rfl, hH2⟩, rfl, rfl⟩
 refine Ops.app ?_
 skip
 refine Ops.pv (pv_assign rfl) rfl ?_
 refine Ops.nil ?_
 refine Ends.seq ?_
 refine Wp.ret ?_
 have he : mMint p so de r bd g k = mChild p so de (derive (mBoth p so de).1 r bd g k).1 := by unfold mMint; rw [if_neg (by assumption), if_neg (by assumption)]
 rw [he]
 exact Ends.ret (L' := Q1) (res1 rfl rfl) ⟨rfl, hH2⟩
theorem tr_mCopy (n cb : Nat) (L : Hp) (p : PS) (hH : CapsH n p cb L) (hn : n ≤ 2 ^ 19) (so de : SlotM) (r : Int) : Tr Try.prog 17 [cpP cb, slotV so, slotV de, .int .i64 r] (L) (fun u L' => u = .int .i64 (mCopy p so de r).1 ∧ CapsH (n + 1) (mCopy p so de r).2 cb L') := by
 have hH0 := hH
 obtain ⟨sb, tb, Ls, Lt, hS, hT, rfl⟩ := hH
 refine Tr.enter Try.func17 rfl Try.ntmps17 rfl (fun W F => ?_)
 refine Wp.app ?_
 refine Wp.seq ?_
 refine Wp.region ?_
 refine Ops.ef rfl (ef_boxK rfl rfl) ?_
 rintro _ _ ⟨b1, rfl, rfl⟩
 refine Ops.ef rfl (ef_boxK rfl rfl) ?_
 rintro _ _ ⟨b2, rfl, rfl⟩
 refine Ops.pv (pv_assign rfl) rfl ?_
 refine Ops.nil ?_
 refine Ends.seq ?_
 refine Wp.seq ?_
 refine AnyH.start ((b1, .cells [.int .i64 so.1, .int .i64 so.2].toArray 38) :: cBlk cb sb tb :: []) 13 rfl ?_
 refine Tk 0 rfl rfl (pv_move rfl) rfl ?_
 refine Tk 1 rfl rfl (pv_nilCheck rfl) rfl ?_
 refine Tk 2 rfl rfl (pv_fieldAddr0 rfl rfl) rfl ?_
 refine Tk 3 rfl rfl (pv_fieldAddr0 rfl rfl) rfl ?_
 refine Tk 4 rfl rfl (pv_load rfl rfl rfl) rfl ?_
 refine Tk 5 rfl rfl (pv_loadK [_, _] rfl rfl rfl ⟨rfl, rfl, trivial⟩) rfl ?_
 refine AnyH.two 6 10 (by kernel_rfl) ?_ ?_
 ·
  refine Turn.ef rfl rfl (ef_callr (sf_get hS so) rfl rfl) ?_ ?_
  ·
   rintro _ _ ⟨rfl, rfl⟩; infer_instance
  rintro _ _ ⟨rfl, rfl⟩
  refine Tk 7 rfl rfl (pv_move rfl) rfl ?_
  refine Tk 8 rfl rfl (pv_extract rfl rfl) rfl ?_
  refine Tk 9 rfl rfl (pv_extract rfl rfl) rfl ?_
  refine AnyH.one 10 (by kernel_rfl) ?_
  refine Turn.ef rfl rfl (ef_allocK tyZ24 rfl) ?_ ?_
  ·
   rintro _ _ ⟨b3, rfl, rfl⟩; infer_instance
  rintro _ _ ⟨b3, rfl, rfl⟩
  refine AnyH.one 11 (by kernel_rfl) ?_
  refine Turn.ef rfl rfl (ef_storeK rfl rfl rfl rfl) ?_ ?_
  ·
   rintro _ _ ⟨rfl, rfl⟩; infer_instance
  rintro _ _ ⟨rfl, rfl⟩
  refine Tk 12 rfl rfl (pv_assign rfl) rfl ?_
  refine AnyH.done (by kernel_rfl) ?_
  refine Ends.seq ?_
  refine Wp.seq ?_
  refine Wp.region ?_
  refine Ops.pv (pv_move rfl) rfl ?_
  refine Ops.pv (pv_loadK [_, _] rfl rfl rfl ⟨rfl, rfl, trivial⟩) rfl ?_
  refine Ops.pv (pv_loadK [_, _] rfl rfl rfl ⟨rfl, rfl, trivial⟩) rfl ?_
  refine Ops.pv (pv_move rfl) rfl ?_
  refine Ops.pv (pv_fieldAddr0 rfl rfl) rfl ?_
  refine Ops.pv (pv_load rfl rfl rfl) rfl ?_
  refine Ops.pv (pv_fieldAddr0 rfl rfl) rfl ?_
  refine Ops.pv (pv_load rfl rfl rfl) rfl ?_
  refine Ops.ef rfl (ef_call (tr_mMint n cb (cBlk cb sb tb :: (Ls ++ Lt)) p hH0 hn so de r 0 (dget p.l so).1.guard (dget p.l so).1.bits) rfl rfl) ?_
  rintro _ _ ⟨_, Q1, ⟨rfl, hH2⟩, rfl, rfl⟩
  refine Ops.app ?_
  skip
  refine Ops.pv (pv_assign rfl) rfl ?_
  refine Ops.nil ?_
  refine Ends.seq ?_
  refine Wp.ret ?_
  exact Ends.ret (L' := Q1) (res1 rfl rfl) ⟨rfl, hH2⟩
 refine Turn.ef rfl rfl (ef_allocK tyZ24 rfl) ?_ ?_
 ·
  rintro _ _ ⟨b4, rfl, rfl⟩; infer_instance
 rintro _ _ ⟨b4, rfl, rfl⟩
 refine AnyH.one 6 (by kernel_rfl) ?_
 refine Turn.ef rfl rfl (ef_callr (sf_get hS so) rfl rfl) ?_ ?_
 ·
  rintro _ _ ⟨rfl, rfl⟩; infer_instance
 rintro _ _ ⟨rfl, rfl⟩
 refine Tk 7 rfl rfl (pv_move rfl) rfl ?_
 refine Tk 8 rfl rfl (pv_extract rfl rfl) rfl ?_
 refine Tk 9 rfl rfl (pv_extract rfl rfl) rfl ?_
 refine AnyH.one 11 (by kernel_rfl) ?_
 refine Turn.ef rfl rfl (ef_storeK rfl rfl rfl rfl) ?_ ?_
 ·
  rintro _ _ ⟨rfl, rfl⟩; infer_instance
 rintro _ _ ⟨rfl, rfl⟩
 refine Tk 12 rfl rfl (pv_assign rfl) rfl ?_
 refine AnyH.done (by kernel_rfl) ?_
 refine Ends.seq ?_
 refine Wp.seq ?_
 refine Wp.region ?_
 refine Ops.pv (pv_move rfl) rfl ?_
 refine Ops.pv (pv_loadK [_, _] rfl rfl rfl ⟨rfl, rfl, trivial⟩) rfl ?_
 refine Ops.pv (pv_loadK [_, _] rfl rfl rfl ⟨rfl, rfl, trivial⟩) rfl ?_
 refine Ops.pv (pv_move rfl) rfl ?_
 refine Ops.pv (pv_fieldAddr0 rfl rfl) rfl ?_
 refine Ops.pv (pv_load rfl rfl rfl) rfl ?_
 refine Ops.pv (pv_fieldAddr0 rfl rfl) rfl ?_
 refine Ops.pv (pv_load rfl rfl rfl) rfl ?_
 refine Ops.ef rfl (ef_call (tr_mMint n cb (cBlk cb sb tb :: (Ls ++ Lt)) p hH0 hn so de r 0 (dget p.l so).1.guard (dget p.l so).1.bits) rfl rfl) ?_
 rintro _ _ ⟨_, Q2, ⟨rfl, hH2⟩, rfl, rfl⟩
 refine Ops.app ?_
 skip
 refine Ops.pv (pv_assign rfl) rfl ?_
 refine Ops.nil ?_
 refine Ends.seq ?_
 refine Wp.ret ?_
 exact Ends.ret (L' := Q2) (res1 rfl rfl) ⟨rfl, hH2⟩
theorem tr_mTake (n cb : Nat) (L : Hp) (p : PS) (hH : CapsH n p cb L) (hn : n ≤ 2 ^ 19) (so : SlotM) : Tr Try.prog 27 [cpP cb, slotV so] (L) (fun u L' => u = .tuple #[(mTake p so).1.v, .int .i64 (mTake p so).2.1] ∧ CapsH n (mTake p so).2.2 cb L') := by
 obtain ⟨sb, tb, Ls, Lt, hS, hT, rfl⟩ := hH
 refine Tr.enter Try.func27 rfl Try.ntmps27 rfl (fun W F => ?_)
 refine Wp.app ?_
 refine Wp.seq ?_
 refine Wp.region ?_
 refine Ops.ef rfl (ef_boxK rfl rfl) ?_
 rintro _ _ ⟨b1, rfl, rfl⟩
 refine Ops.ef rfl (ef_allocK tyZ24 rfl) ?_
 rintro _ _ ⟨b2, rfl, rfl⟩
 refine Ops.pv (pv_assign rfl) rfl ?_
 refine Ops.nil ?_
 refine Ends.seq ?_
 refine Wp.seq ?_
 refine AnyH.start ((b1, .cells [.int .i64 so.1, .int .i64 so.2].toArray 38) :: cBlk cb sb tb :: []) 13 rfl ?_
 refine Tk 0 rfl rfl (pv_move rfl) rfl ?_
 refine Tk 1 rfl rfl (pv_nilCheck rfl) rfl ?_
 refine Tk 2 rfl rfl (pv_fieldAddr0 rfl rfl) rfl ?_
 refine Tk 3 rfl rfl (pv_fieldAddr0 rfl rfl) rfl ?_
 refine Tk 4 rfl rfl (pv_load rfl rfl rfl) rfl ?_
 refine Tk 5 rfl rfl (pv_loadK [_, _] rfl rfl rfl ⟨rfl, rfl, trivial⟩) rfl ?_
 refine AnyH.two 6 10 (by kernel_rfl) ?_ ?_
 ·
  refine Turn.ef rfl rfl (ef_call (sf_take hS so) rfl rfl) ?_ ?_
  ·
   rintro _ _ ⟨_, Q1, ⟨rfl, hS2⟩, rfl, rfl⟩; infer_instance
  rintro _ _ ⟨_, Q1, ⟨rfl, hS2⟩, rfl, rfl⟩
  refine AnyH.app ?_
  skip
  refine Tk 7 rfl rfl (pv_move rfl) rfl ?_
  refine Tk 8 rfl rfl (pv_extract rfl rfl) rfl ?_
  refine Tk 9 rfl rfl (pv_extract rfl rfl) rfl ?_
  refine AnyH.one 10 (by kernel_rfl) ?_
  refine Turn.ef rfl rfl (ef_allocK tyZ24 rfl) ?_ ?_
  ·
   rintro _ _ ⟨b3, rfl, rfl⟩; infer_instance
  rintro _ _ ⟨b3, rfl, rfl⟩
  refine AnyH.one 11 (by kernel_rfl) ?_
  refine Turn.ef rfl rfl (ef_storeK rfl rfl rfl rfl) ?_ ?_
  ·
   rintro _ _ ⟨rfl, rfl⟩; infer_instance
  rintro _ _ ⟨rfl, rfl⟩
  refine Tk 12 rfl rfl (pv_assign rfl) rfl ?_
  refine AnyH.done (by kernel_rfl) ?_
  refine Ends.seq ?_
  refine Wp.seq ?_
  refine Wp.seq ?_
  refine Wp.region ?_
  refine Ops.pv (pv_move rfl) rfl ?_
  refine Ops.pv (pv_eql rfl rfl) rfl ?_
  refine Ops.nil ?_
  refine Ends.seq ?_
  refine Wp.cond_dect rfl (fun h1 => ?_) (fun h1 => ?_)
  ·
   refine AnyH.start ((b1, .cells [.int .i64 so.1, .int .i64 so.2].toArray 38) :: cBlk cb sb tb :: []) 6 rfl ?_
   refine Tk 0 rfl rfl (pv_move rfl) rfl ?_
   refine Tk 1 rfl rfl (pv_nilCheck rfl) rfl ?_
   refine Tk 2 rfl rfl (pv_fieldAddr0 rfl rfl) rfl ?_
   refine Tk 3 rfl rfl (pv_load rfl rfl rfl) rfl ?_
   refine Tk 4 rfl rfl (pv_loadK [_, _] rfl rfl rfl ⟨rfl, rfl, trivial⟩) rfl ?_
   refine AnyH.one 5 (by kernel_rfl) ?_
   refine Turn.ef rfl rfl (ef_call (tr_fDrop hT (by omega) so) rfl rfl) ?_ ?_
   ·
    rintro _ _ ⟨_, R1, ⟨rfl, hT2⟩, rfl, rfl⟩; infer_instance
   rintro _ _ ⟨_, R1, ⟨rfl, hT2⟩, rfl, rfl⟩
   refine AnyH.app ?_
   skip
   refine AnyH.done (by kernel_rfl) ?_
   refine Ends.seq ?_
   refine Wp.seq ?_
   refine Wp.region ?_
   refine Ops.pv (pv_loadK [_, _, _, _, _, _] rfl rfl rfl ⟨rfl, rfl, rfl, rfl, rfl, rfl, trivial⟩) rfl ?_
   refine Ops.pv (pv_move rfl) rfl ?_
   refine Ops.ef rfl (ef_storeK rfl rfl rfl rfl) ?_
   rintro _ _ ⟨rfl, rfl⟩
   refine Ops.pv (pv_assign rfl) rfl ?_
   refine Ops.nil ?_
   refine Ends.seq ?_
   refine Wp.ret ?_
   have he : mTake p so = ((dtake p.l so).1, (dtake p.l so).2.1, ⟨(dtake p.l so).2.2, (ftDrop p.F so).2⟩) := by unfold mTake; rw [if_pos (by assumption)]
   rw [he]
   exact Ends.ret (L' := cBlk cb sb tb :: (Q1 ++ R1)) (res_list (rs := [.cell 4 24, .tmp 5]) rfl ⟨_, _, rfl, rv_cellK [_, _, _, _, _, _] rfl rfl rfl ⟨rfl, rfl, rfl, rfl, rfl, rfl, trivial⟩, ⟨_, _, rfl, rv_tmp rfl, rfl⟩⟩ rfl) ⟨rfl, sb, tb, Q1, R1, hS2, hT2, rfl⟩
  refine Wp.skip ?_
  refine Ends.seq ?_
  refine Wp.seq ?_
  refine Wp.region ?_
  refine Ops.pv (pv_loadK [_, _, _, _, _, _] rfl rfl rfl ⟨rfl, rfl, rfl, rfl, rfl, rfl, trivial⟩) rfl ?_
  refine Ops.pv (pv_move rfl) rfl ?_
  refine Ops.ef rfl (ef_storeK rfl rfl rfl rfl) ?_
  rintro _ _ ⟨rfl, rfl⟩
  refine Ops.pv (pv_assign rfl) rfl ?_
  refine Ops.nil ?_
  refine Ends.seq ?_
  refine Wp.ret ?_
  have he : mTake p so = ((dtake p.l so).1, (dtake p.l so).2.1, ⟨(dtake p.l so).2.2, p.F⟩) := by unfold mTake; rw [if_neg (by assumption)]
  rw [he]
  exact Ends.ret (L' := cBlk cb sb tb :: (Q1 ++ Lt)) (res_list (rs := [.cell 4 24, .tmp 5]) rfl ⟨_, _, rfl, rv_cellK [_, _, _, _, _, _] rfl rfl rfl ⟨rfl, rfl, rfl, rfl, rfl, rfl, trivial⟩, ⟨_, _, rfl, rv_tmp rfl, rfl⟩⟩ rfl) ⟨rfl, sb, tb, Q1, Lt, hS2, hT, rfl⟩
 refine Turn.ef rfl rfl (ef_allocK tyZ24 rfl) ?_ ?_
 ·
  rintro _ _ ⟨b4, rfl, rfl⟩; infer_instance
 rintro _ _ ⟨b4, rfl, rfl⟩
 refine AnyH.one 6 (by kernel_rfl) ?_
 refine Turn.ef rfl rfl (ef_call (sf_take hS so) rfl rfl) ?_ ?_
 ·
  rintro _ _ ⟨_, Q2, ⟨rfl, hS2⟩, rfl, rfl⟩; infer_instance
 rintro _ _ ⟨_, Q2, ⟨rfl, hS2⟩, rfl, rfl⟩
 refine AnyH.app ?_
 skip
 refine Tk 7 rfl rfl (pv_move rfl) rfl ?_
 refine Tk 8 rfl rfl (pv_extract rfl rfl) rfl ?_
 refine Tk 9 rfl rfl (pv_extract rfl rfl) rfl ?_
 refine AnyH.one 11 (by kernel_rfl) ?_
 refine Turn.ef rfl rfl (ef_storeK rfl rfl rfl rfl) ?_ ?_
 ·
  rintro _ _ ⟨rfl, rfl⟩; infer_instance
 rintro _ _ ⟨rfl, rfl⟩
 refine Tk 12 rfl rfl (pv_assign rfl) rfl ?_
 refine AnyH.done (by kernel_rfl) ?_
 refine Ends.seq ?_
 refine Wp.seq ?_
 refine Wp.seq ?_
 refine Wp.region ?_
 refine Ops.pv (pv_move rfl) rfl ?_
 refine Ops.pv (pv_eql rfl rfl) rfl ?_
 refine Ops.nil ?_
 refine Ends.seq ?_
 refine Wp.cond_dect rfl (fun h2 => ?_) (fun h2 => ?_)
 ·
  refine AnyH.start ((b1, .cells [.int .i64 so.1, .int .i64 so.2].toArray 38) :: cBlk cb sb tb :: []) 6 rfl ?_
  refine Tk 0 rfl rfl (pv_move rfl) rfl ?_
  refine Tk 1 rfl rfl (pv_nilCheck rfl) rfl ?_
  refine Tk 2 rfl rfl (pv_fieldAddr0 rfl rfl) rfl ?_
  refine Tk 3 rfl rfl (pv_load rfl rfl rfl) rfl ?_
  refine Tk 4 rfl rfl (pv_loadK [_, _] rfl rfl rfl ⟨rfl, rfl, trivial⟩) rfl ?_
  refine AnyH.one 5 (by kernel_rfl) ?_
  refine Turn.ef rfl rfl (ef_call (tr_fDrop hT (by omega) so) rfl rfl) ?_ ?_
  ·
   rintro _ _ ⟨_, R2, ⟨rfl, hT2⟩, rfl, rfl⟩; infer_instance
  rintro _ _ ⟨_, R2, ⟨rfl, hT2⟩, rfl, rfl⟩
  refine AnyH.app ?_
  skip
  refine AnyH.done (by kernel_rfl) ?_
  refine Ends.seq ?_
  refine Wp.seq ?_
  refine Wp.region ?_
  refine Ops.pv (pv_loadK [_, _, _, _, _, _] rfl rfl rfl ⟨rfl, rfl, rfl, rfl, rfl, rfl, trivial⟩) rfl ?_
  refine Ops.pv (pv_move rfl) rfl ?_
  refine Ops.ef rfl (ef_storeK rfl rfl rfl rfl) ?_
  rintro _ _ ⟨rfl, rfl⟩
  refine Ops.pv (pv_assign rfl) rfl ?_
  refine Ops.nil ?_
  refine Ends.seq ?_
  refine Wp.ret ?_
  have he : mTake p so = ((dtake p.l so).1, (dtake p.l so).2.1, ⟨(dtake p.l so).2.2, (ftDrop p.F so).2⟩) := by unfold mTake; rw [if_pos (by assumption)]
  rw [he]
  exact Ends.ret (L' := cBlk cb sb tb :: (Q2 ++ R2)) (res_list (rs := [.cell 4 24, .tmp 5]) rfl ⟨_, _, rfl, rv_cellK [_, _, _, _, _, _] rfl rfl rfl ⟨rfl, rfl, rfl, rfl, rfl, rfl, trivial⟩, ⟨_, _, rfl, rv_tmp rfl, rfl⟩⟩ rfl) ⟨rfl, sb, tb, Q2, R2, hS2, hT2, rfl⟩
 refine Wp.skip ?_
 refine Ends.seq ?_
 refine Wp.seq ?_
 refine Wp.region ?_
 refine Ops.pv (pv_loadK [_, _, _, _, _, _] rfl rfl rfl ⟨rfl, rfl, rfl, rfl, rfl, rfl, trivial⟩) rfl ?_
 refine Ops.pv (pv_move rfl) rfl ?_
 refine Ops.ef rfl (ef_storeK rfl rfl rfl rfl) ?_
 rintro _ _ ⟨rfl, rfl⟩
 refine Ops.pv (pv_assign rfl) rfl ?_
 refine Ops.nil ?_
 refine Ends.seq ?_
 refine Wp.ret ?_
 have he : mTake p so = ((dtake p.l so).1, (dtake p.l so).2.1, ⟨(dtake p.l so).2.2, p.F⟩) := by unfold mTake; rw [if_neg (by assumption)]
 rw [he]
 exact Ends.ret (L' := cBlk cb sb tb :: (Q2 ++ Lt)) (res_list (rs := [.cell 4 24, .tmp 5]) rfl ⟨_, _, rfl, rv_cellK [_, _, _, _, _, _] rfl rfl rfl ⟨rfl, rfl, rfl, rfl, rfl, rfl, trivial⟩, ⟨_, _, rfl, rv_tmp rfl, rfl⟩⟩ rfl) ⟨rfl, sb, tb, Q2, Lt, hS2, hT, rfl⟩
end Go.Proofs.Ytdodfnjmkpgdbaa
end
section
set_option linter.unusedVariables false
set_option linter.unusedSimpArgs false
namespace Go.Proofs.Ytdodfnjmkpgdbaa
open Go.SL
abbrev tkBlk (tk cb : Nat) (n : Nat) (v : Value) : Nat × Obj := (tk, .cells [cpP cb, .int .i64 n, v].toArray 98)
abbrev tkP (tk : Nat) : Value := .pointer (some ⟨tk, 0, none⟩)
def spentC : List PanicEntry := [{ v := .iface 122 (.agg #[]), recovered := false }]
theorem slots_one (l : List SlotM) : (slotsCells l).all Value.oneCell' = true := by
 rw [List.all_eq_true]
 intro v hv
 obtain ⟨s, _, hs⟩ := List.mem_flatMap.1 hv
 rcases List.mem_cons.1 hs with rfl | hs
 ·
  rfl
 obtain rfl := List.mem_singleton.1 hs; rfl
def idxS (l : List SlotM) (s : SlotM) : Int := match l.idxOf? s with | some i => (i : Int) | none => -1
theorem idxS_hit {l : List SlotM} {s : SlotM} {i : Nat} (h : l[i]? = some s) (hn : ∀ j, j < i → l[j]? ≠ some s) : idxS l s = i := by
 have : l.idxOf? s = some i := by
  rw [List.idxOf?, List.findIdx?_eq_some_iff_getElem]
  obtain ⟨hi, rfl⟩ := List.getElem?_eq_some_iff.1 h
  refine ⟨hi, by simp, fun j hj => ?_⟩
  have := hn j hj
  rw [List.getElem?_eq_getElem (by omega)] at this
  simpa using this
 unfold idxS; rw [this]
theorem idxS_miss {l : List SlotM} {s : SlotM} (hn : ∀ j, j < l.length → l[j]? ≠ some s) : idxS l s = -1 := by
 have : l.idxOf? s = none := by
  rw [List.idxOf?, List.findIdx?_eq_none_iff]
  intro x hx
  obtain ⟨j, hj, rfl⟩ := List.getElem_of_mem hx
  have := hn j hj
  rw [List.getElem?_eq_getElem hj] at this
  simpa using this
 unfold idxS; rw [this]
theorem idxS_mem (l : List SlotM) (s : SlotM) : 0 ≤ idxS l s ↔ s ∈ l := by
 unfold idxS
 cases h : l.idxOf? s with
 | none =>
  rw [List.idxOf?, List.findIdx?_eq_none_iff] at h
  constructor
  ·
   intro h; simp at h
  ·
   intro hs; have := h s hs; simp at this
 | some i =>
  rw [List.idxOf?, List.findIdx?_eq_some_iff_getElem] at h
  obtain ⟨hi, he, _⟩ := h
  have : l[i] = s := by simpa using he
  exact ⟨fun _ => this ▸ List.getElem_mem hi, fun _ => by dsimp only; omega⟩
theorem shl_r {r : Int} (h : 0 ≤ r ∧ r ≤ 4) : IntKind.i64.wrap (1 * 2 ^ (min r.toNat 64)) = ((2 ^ r.toNat : Nat) : Int) := by
 obtain ⟨k, rfl⟩ : ∃ k : Nat, r = k := ⟨r.toNat, by omega⟩
 have hk : k ≤ 4 := by omega
 have h2 : (2 : Nat) ^ k ≤ 2 ^ 4 := Nat.pow_le_pow_right (by omega) hk
 rw [Int.toNat_natCast, show min k 64 = k by omega, Int.one_mul]
 exact w64n (by norm_cast) (by omega)
theorem fin_1 {l : List DN} {s : SlotM} (h : (dget l s).2 = 0 ∧ (dget l s).1.kind ≠ 0) : decide (fin l s) = decide ((dcount l (dget l s).1.kind (dget l s).1.object : Int) = 1) := by
 rw [decide_eq_decide]; unfold fin
 exact ⟨fun k => by rw [k.2]; rfl, fun k => ⟨h.2, by omega⟩⟩
theorem fin_0 {l : List DN} {s : SlotM} (h : ¬ ((dget l s).2 = 0 ∧ (dget l s).1.kind ≠ 0)) : decide (fin l s) = false :=
  decide_eq_false fun k => h ⟨dget_le k.1, k.1⟩
theorem firstIn_0 {l : List DN} {way : List SlotM} {node : Int} (h : dradix l node = 0) : firstIn l way node = none := by unfold firstIn; rw [if_pos h]
def rvErr (l : List DN) (s : SlotM) (n : Int) : Int := if n < 1 ∨ 1000 < n then 1 else if (dget l s).2 = 0 ∧ (dget l s).1.kind = 0 then 3 else (dget l s).2
theorem rvErr_1 {l : List DN} {s : SlotM} {n : Int} (h : n < 1 ∨ n > 1000) : rvErr l s n = 1 := if_pos h
theorem rvErr_2 {l : List DN} {s : SlotM} {n : Int} (h : ¬ (n < 1 ∨ n > 1000)) (h2 : (dget l s).2 = 0 ∧ (dget l s).1.kind = 0) : rvErr l s n = 3 := by unfold rvErr; rw [if_neg h, if_pos h2]
theorem rvErr_3 {l : List DN} {s : SlotM} {n : Int} (h : ¬ (n < 1 ∨ n > 1000)) (h2 : ¬ ((dget l s).2 = 0 ∧ (dget l s).1.kind = 0)) : rvErr l s n = (dget l s).2 := by unfold rvErr; rw [if_neg h, if_neg h2]
theorem tr_slIndex (G : Hp) (a : Option Addr) (c : Nat) (l : List SlotM) (x : SlotM) (hv : View G 2 (.slice a l.length c) l.length (slotsCells l)) (hl : l.length ≤ 2 ^ 40) : TrR Try.prog 92 [.slice a l.length c, slotV x] (G) (.int .i64 (idxS l x)) := by
 refine Tr.enter Try.func92 rfl Try.ntmps92 rfl (fun W F => ?_)
 refine Wp.app ?_
 refine Wp.seq ?_
 refine Wp.region ?_
 refine Ops.ef rfl (ef_boxK rfl rfl) ?_
 rintro _ _ ⟨b1, rfl, rfl⟩
 refine Ops.pv (pv_assign rfl) rfl ?_
 refine Ops.nil ?_
 refine Ends.seq ?_
 refine Wp.seq ?_
 refine Wp.seq ?_
 refine Wp.region ?_
 refine Ops.pv (pv_move rfl) rfl ?_
 refine Ops.pv (pv_len_slice (T := 41) rfl rfl) rfl ?_
 refine Ops.pv (pv_move rfl) rfl ?_
 refine Ops.nil ?_
 refine Ends.seq ?_
 refine Wp.block ?_
 refine Wp.loopK (σ := Nat) [(0, _), (3, _), (7, _)] (fun s => [(8, .int .i64 s)]) (fun s => (b1, .cells [.int .i64 x.1, .int .i64 x.2].toArray 38) :: (G ++ F)) (fun s => s ≤ l.length ∧ ∀ j, j < s → l[j]? ≠ some x) (fun s => l.length - s) 0 ⟨Nat.zero_le _, fun j hj => absurd hj (Nat.not_lt_zero j)⟩ ⟨rfl, rfl, rfl, trivial⟩ ⟨rfl, trivial⟩ (by intro w ho; (try dsimp only [List.nil_append, List.cons_append]); exact Drop.own ho) ?_
 rintro i KK ⟨hi, hn⟩ hK
 dsimp only [List.cons_append, List.nil_append] at hK ⊢
 refine Wp.seq ?_
 refine Wp.region ?_
 refine Ops.pv (pv_lss rfl rfl) rfl ?_
 refine Ops.nil ?_
 refine Ends.seq ?_
 refine Wp.seq ?_
 refine Wp.cond_dect rfl (fun h1 => ?_) (fun h1 => ?_)
 ·
  obtain ⟨b5, o5, cap5, cc5, T5, f5, hw5, hbv5, hr5⟩ := hv.open (by omega)
  cases hw5
  obtain ⟨s1, hs1⟩ : ∃ s, l[i]? = some s := ⟨_, List.getElem?_eq_getElem (by omega)⟩
  have hre1 := hr5.sub (i := i * 2) (l := 2)
  rw [slots_reads hs1] at hre1
  refine Wp.skip ?_
  refine Ends.seq ?_
  refine Wp.seq ?_
  refine Wp.block ?_
  refine Wp.seq ?_
  refine Wp.region ?_
  refine Ops.pv (pv_move rfl) rfl ?_
  refine Ops.pv (pv_assign rfl) rfl ?_
  refine Ops.nil ?_
  refine Ends.seq ?_
  refine Wp.seq ?_
  refine AnyH.start ((b1, .cells [.int .i64 x.1, .int .i64 x.2].toArray 38) :: G) 6 rfl ?_
  refine Tk 0 rfl rfl (pv_loadK [_, _] rfl rfl rfl ⟨rfl, rfl, trivial⟩) rfl ?_
  refine Tk 1 rfl rfl (pv_move rfl) rfl ?_
  refine Tk 2 rfl rfl (pv_move rfl) rfl ?_
  refine Tk 3 rfl rfl (pv_indexAddr (i := i) rfl rfl rfl (by omega)) rfl ?_
  refine Tk 4 rfl rfl (pv_loadK [.int .i64 s1.1, .int .i64 s1.2] rfl rfl rfl hre1) rfl ?_
  refine Tk 5 rfl rfl (pv_eql_slot (a := x) (b := s1) rfl rfl) rfl ?_
  refine AnyH.done (by kernel_rfl) ?_
  refine Ends.seq ?_
  refine Wp.cond_dect rfl (fun h2 => ?_) (fun h2 => ?_)
  ·
   refine Wp.seq ?_
   refine Wp.region ?_
   refine Ops.pv (pv_move rfl) rfl ?_
   refine Ops.pv (pv_assign rfl) rfl ?_
   refine Ops.nil ?_
   refine Ends.seq ?_
   refine Wp.ret ?_
   refine Ends.block_ret ?_
   refine Ends.then_ret ?_
   refine Ends.then_ret ?_
   refine Ends.block_ret ?_
   refine Ends.then_ret ?_
   exact Ends.ret (res1 rfl rfl) ⟨by rw [idxS_hit (i := i) (by rw [hs1]; simp_all) hn], rfl⟩
  refine Wp.skip ?_
  refine Ends.block_normal ?_
  refine Ends.seq ?_
  refine Wp.region ?_
  refine Ops.pv (pv_add rfl rfl (w64 (by omega) (by omega))) rfl ?_
  refine Ops.pv (pv_move rfl) rfl ?_
  refine Ops.nil ?_
  refine Ends.goes ?_
  refine Goes.back (hK (i + 1) ⟨by omega, fun j hj => ?_⟩ (by omega)) ⟨rfl, rfl, rfl, rfl, trivial⟩
  rcases Nat.lt_succ_iff_lt_or_eq.1 hj with hj | rfl
  ·
   exact hn j hj
  rw [hs1]; intro e; cases e; simp_all
 refine Wp.exit ?_
 refine Ends.then_exit ?_
 refine Ends.then_exit ?_
 refine Ends.block_hit ?_
 refine Ends.seq ?_
 refine Wp.seq ?_
 refine Wp.region ?_
 refine Ops.pv (pv_assign rfl) rfl ?_
 refine Ops.nil ?_
 refine Ends.seq ?_
 refine Wp.ret ?_
 exact Ends.ret (res1 rfl rfl) ⟨by rw [idxS_miss (fun j hj => hn j (by omega))], rfl⟩
theorem tr_slContains (G : Hp) (a : Option Addr) (c : Nat) (l : List SlotM) (x : SlotM) (hv : View G 2 (.slice a l.length c) l.length (slotsCells l)) (hl : l.length ≤ 2 ^ 40) : TrR Try.prog 91 [.slice a l.length c, slotV x] (G) (.bool (decide (x ∈ l))) := by
 refine Tr.enter Try.func91 rfl Try.ntmps91 rfl (fun W F => ?_)
 refine Wp.app ?_
 refine Wp.seq ?_
 refine Wp.region ?_
 refine Ops.ef rfl (ef_boxK rfl rfl) ?_
 rintro _ _ ⟨b1, rfl, rfl⟩
 refine Ops.pv (pv_assign rfl) rfl ?_
 refine Ops.nil ?_
 refine Ends.seq ?_
 refine Wp.seq ?_
 refine Wp.region ?_
 refine Ops.pv (pv_move rfl) rfl ?_
 refine Ops.pv (pv_loadK [_, _] rfl rfl rfl ⟨rfl, rfl, trivial⟩) rfl ?_
 refine Ops.ef rfl (ef_callr (tr_slIndex G a c l x hv hl) rfl rfl) ?_
 rintro _ _ ⟨rfl, rfl⟩
 refine Ops.pv (pv_geq rfl rfl) rfl ?_
 refine Ops.pv (pv_assign rfl) rfl ?_
 refine Ops.nil ?_
 refine Ends.seq ?_
 refine Wp.ret ?_
 exact Ends.ret (res1 rfl rfl) ⟨by rw [decide_eq_decide.2 (idxS_mem l x)], rfl⟩
theorem tr_slClone (G : Hp) (a : Option Addr) (c : Nat) (l : List SlotM) (hv : View G 2 (.slice a l.length c) l.length (slotsCells l)) (hl : l.length ≤ 2 ^ 40) : Tr Try.prog 85 [.slice a l.length c] (G) (fun v L' => ∃ H, Slc 38 2 v l.length (slotsCells l) H ∧ L' = H ++ G) := by
 refine Tr.enter Try.func85 rfl Try.ntmps85 rfl (fun W F => ?_)
 refine Wp.app ?_
 refine Wp.seq ?_
 refine Wp.region ?_
 refine Ops.pv (pv_assign rfl) rfl ?_
 refine Ops.nil ?_
 refine Ends.seq ?_
 refine Wp.seq ?_
 refine Wp.seq ?_
 refine Wp.region ?_
 refine Ops.pv (pv_move rfl) rfl ?_
 refine Ops.pv (pv_eql_slcnil rfl rfl) rfl ?_
 refine Ops.nil ?_
 refine Ends.seq ?_
 refine Wp.cond_t rfl (fun h1 => ?_) (fun h1 => ?_)
 ·
  obtain rfl := Option.isNone_iff_eq_none.1 h1
  obtain ⟨e0, e1⟩ := view_nil' hv
  refine Wp.seq ?_
  refine Wp.region ?_
  refine Ops.pv (pv_assign rfl) rfl ?_
  refine Ops.nil ?_
  refine Ends.seq ?_
  refine Wp.ret ?_
  refine Ends.then_ret ?_
  exact Ends.ret (L' := G) (res1 rfl rfl) ⟨[], by rw [e0, e1]; exact Slc.nil _ _, rfl⟩
 refine Wp.skip ?_
 refine Ends.seq ?_
 refine Wp.seq ?_
 refine Wp.region ?_
 refine Ops.ef rfl (ef_buildSlice0 rfl) ?_
 rintro _ _ ⟨b1, rfl, rfl⟩
 refine Ops.pv (pv_move rfl) rfl ?_
 refine Ops.ef rfl (ef_appendV (H := [(b1, .cells ([] : List Value).toArray 38)]) rfl (slc_empty' 38 2 b1) rfl (hv.mono (by intro p hp; simp [hp])) (slots_one l) (by omega) (by omega) rfl rfl) ?_
 rintro _ _ ⟨v1, H1, hs1, rfl, rfl⟩
 refine Ops.app ?_
 skip
 refine Ops.pv (pv_assign rfl) rfl ?_
 refine Ops.nil ?_
 refine Ends.seq ?_
 refine Wp.ret ?_
 rw [Nat.zero_add, List.nil_append] at hs1
 exact Ends.ret (L' := H1 ++ G) (res1 rfl rfl) ⟨H1, hs1, rfl⟩
theorem tr_rFinal (n cb : Nat) (L : Hp) (p : PS) (hH : CapsH n p cb L) (s : SlotM) : TrR Try.prog 36 [cpP cb, slotV s] (L) (.bool (decide (fin p.l s))) := by
 obtain ⟨sb, tb, Ls, Lt, hS, hT, rfl⟩ := hH
 refine Tr.enter Try.func36 rfl Try.ntmps36 rfl (fun W F => ?_)
 refine Wp.app ?_
 refine Wp.seq ?_
 refine Wp.region ?_
 refine Ops.ef rfl (ef_boxK rfl rfl) ?_
 rintro _ _ ⟨b1, rfl, rfl⟩
 refine Ops.pv (pv_assign rfl) rfl ?_
 refine Ops.nil ?_
 refine Ends.seq ?_
 refine Wp.seq ?_
 refine AnyH.start ((b1, .cells [.int .i64 s.1, .int .i64 s.2].toArray 38) :: cBlk cb sb tb :: []) 13 rfl ?_
 refine Tk 0 rfl rfl (pv_move rfl) rfl ?_
 refine Tk 1 rfl rfl (pv_nilCheck rfl) rfl ?_
 refine Tk 2 rfl rfl (pv_fieldAddr0 rfl rfl) rfl ?_
 refine Tk 3 rfl rfl (pv_fieldAddr0 rfl rfl) rfl ?_
 refine Tk 4 rfl rfl (pv_load rfl rfl rfl) rfl ?_
 refine Tk 5 rfl rfl (pv_loadK [_, _] rfl rfl rfl ⟨rfl, rfl, trivial⟩) rfl ?_
 refine AnyH.two 6 10 (by kernel_rfl) ?_ ?_
 ·
  refine Turn.ef rfl rfl (ef_callr (sf_get hS s) rfl rfl) ?_ ?_
  ·
   rintro _ _ ⟨rfl, rfl⟩; infer_instance
  rintro _ _ ⟨rfl, rfl⟩
  refine Tk 7 rfl rfl (pv_move rfl) rfl ?_
  refine Tk 8 rfl rfl (pv_extract rfl rfl) rfl ?_
  refine Tk 9 rfl rfl (pv_extract rfl rfl) rfl ?_
  refine AnyH.one 10 (by kernel_rfl) ?_
  refine Turn.ef rfl rfl (ef_allocK tyZ24 rfl) ?_ ?_
  ·
   rintro _ _ ⟨b2, rfl, rfl⟩; infer_instance
  rintro _ _ ⟨b2, rfl, rfl⟩
  refine AnyH.one 11 (by kernel_rfl) ?_
  refine Turn.ef rfl rfl (ef_storeK rfl rfl rfl rfl) ?_ ?_
  ·
   rintro _ _ ⟨rfl, rfl⟩; infer_instance
  rintro _ _ ⟨rfl, rfl⟩
  refine Tk 12 rfl rfl (pv_assign rfl) rfl ?_
  refine AnyH.done (by kernel_rfl) ?_
  refine Ends.seq ?_
  refine Wp.seq ?_
  refine AnyH.start ((b2, .cells (dget p.l s).1.cells.toArray 24) :: cBlk cb sb tb :: []) 21 rfl ?_
  refine Tk 0 rfl rfl (pv_move rfl) rfl ?_
  refine Tk 1 rfl rfl (pv_eql rfl rfl) rfl ?_
  refine Tk 2 rfl rfl (pv_move rfl) rfl ?_
  refine AnyH.takec 3 rfl (by kernel_rfl) (by kernel_rfl) (by kernel_rfl) PF.pf rfl rfl (fun hg => pv_fieldAddr0 rfl rfl) rfl ?_
  refine AnyH.takec 4 rfl (by kernel_rfl) (by kernel_rfl) (by kernel_rfl) PF.pf rfl rfl (fun hg => Pv.setE (t := 20) rfl (cv_pos hg) (pv_load rfl rfl rfl)) rfl ?_
  refine AnyH.takec 5 rfl (by kernel_rfl) (by kernel_rfl) (by kernel_rfl) PF.pf rfl rfl (fun hg => Pv.setE (t := 20) rfl (cv_pos hg) (Pv.setE (t := 21) rfl (cv_pos hg) (pv_neq rfl rfl))) rfl ?_
  refine Tk 6 rfl rfl (pv_pick_and rfl rfl) rfl ?_
  refine Tk 7 rfl rfl (pv_move rfl) rfl ?_
  refine AnyH.split (t := 24) rfl (fun h1 => ?_) (fun h1 => ?_)
  ·
   refine Tk 8 rfl ⟨_, _, rfl, rfl, rfl⟩ (pv_move rfl) rfl ?_
   refine Tk 9 rfl ⟨_, _, rfl, rfl, rfl⟩ (pv_nilCheck rfl) rfl ?_
   refine Tk 10 rfl ⟨_, _, rfl, rfl, rfl⟩ (pv_fieldAddr0 rfl rfl) rfl ?_
   refine Tk 11 rfl ⟨_, _, rfl, rfl, rfl⟩ (pv_fieldAddr0 rfl rfl) rfl ?_
   refine Tk 12 rfl ⟨_, _, rfl, rfl, rfl⟩ (pv_load rfl rfl rfl) rfl ?_
   refine Tk 13 rfl ⟨_, _, rfl, rfl, rfl⟩ (pv_fieldAddr0 rfl rfl) rfl ?_
   refine Tk 14 rfl ⟨_, _, rfl, rfl, rfl⟩ (pv_load rfl rfl rfl) rfl ?_
   refine Tk 15 rfl ⟨_, _, rfl, rfl, rfl⟩ (pv_fieldAddr0 rfl rfl) rfl ?_
   refine Tk 16 rfl ⟨_, _, rfl, rfl, rfl⟩ (pv_load rfl rfl rfl) rfl ?_
   refine AnyH.one 17 (by kernel_rfl) ?_
   refine Turn.ef rfl ⟨_, _, rfl, rfl, rfl⟩ (ef_callr (sf_count hS (dget p.l s).1.kind (dget p.l s).1.object) rfl rfl) ?_ ?_
   ·
    rintro _ _ ⟨rfl, rfl⟩; infer_instance
   rintro _ _ ⟨rfl, rfl⟩
   refine Tk 18 rfl ⟨_, _, rfl, rfl, rfl⟩ (pv_eql rfl rfl) rfl ?_
   refine Tk 19 rfl rfl (pv_pick_true rfl rfl) rfl ?_
   refine Tk 20 rfl rfl (pv_assign rfl) rfl ?_
   refine AnyH.done (by kernel_rfl) ?_
   refine Ends.seq ?_
   refine Wp.ret ?_
   exact Ends.ret (res1 rfl rfl) ⟨by first | rw [fin_1 (by assumption)] | rw [fin_0 (by assumption)], rfl⟩
  refine Ts 8 rfl ⟨_, _, rfl, rfl, rfl⟩ rfl ?_
  refine Ts 9 rfl ⟨_, _, rfl, rfl, rfl⟩ rfl ?_
  refine Ts 10 rfl ⟨_, _, rfl, rfl, rfl⟩ rfl ?_
  refine Ts 11 rfl ⟨_, _, rfl, rfl, rfl⟩ rfl ?_
  refine Ts 12 rfl ⟨_, _, rfl, rfl, rfl⟩ rfl ?_
  refine Ts 13 rfl ⟨_, _, rfl, rfl, rfl⟩ rfl ?_
  refine Ts 14 rfl ⟨_, _, rfl, rfl, rfl⟩ rfl ?_
  refine Ts 15 rfl ⟨_, _, rfl, rfl, rfl⟩ rfl ?_
  refine Ts 16 rfl ⟨_, _, rfl, rfl, rfl⟩ rfl ?_
  refine Ts 17 rfl ⟨_, _, rfl, rfl, rfl⟩ rfl ?_
  refine Ts 18 rfl ⟨_, _, rfl, rfl, rfl⟩ rfl ?_
  refine Tk 19 rfl rfl (pv_pick_false rfl rfl) rfl ?_
  refine Tk 20 rfl rfl (pv_assign rfl) rfl ?_
  refine AnyH.done (by kernel_rfl) ?_
  refine Ends.seq ?_
  refine Wp.ret ?_
  exact Ends.ret (res1 rfl rfl) ⟨by first | rw [fin_1 (by assumption)] | rw [fin_0 (by assumption)], rfl⟩
 refine Turn.ef rfl rfl (ef_allocK tyZ24 rfl) ?_ ?_
 ·
  rintro _ _ ⟨b3, rfl, rfl⟩; infer_instance
 rintro _ _ ⟨b3, rfl, rfl⟩
 refine AnyH.one 6 (by kernel_rfl) ?_
 refine Turn.ef rfl rfl (ef_callr (sf_get hS s) rfl rfl) ?_ ?_
 ·
  rintro _ _ ⟨rfl, rfl⟩; infer_instance
 rintro _ _ ⟨rfl, rfl⟩
 refine Tk 7 rfl rfl (pv_move rfl) rfl ?_
 refine Tk 8 rfl rfl (pv_extract rfl rfl) rfl ?_
 refine Tk 9 rfl rfl (pv_extract rfl rfl) rfl ?_
 refine AnyH.one 11 (by kernel_rfl) ?_
 refine Turn.ef rfl rfl (ef_storeK rfl rfl rfl rfl) ?_ ?_
 ·
  rintro _ _ ⟨rfl, rfl⟩; infer_instance
 rintro _ _ ⟨rfl, rfl⟩
 refine Tk 12 rfl rfl (pv_assign rfl) rfl ?_
 refine AnyH.done (by kernel_rfl) ?_
 refine Ends.seq ?_
 refine Wp.seq ?_
 refine AnyH.start ((b3, .cells (dget p.l s).1.cells.toArray 24) :: cBlk cb sb tb :: []) 21 rfl ?_
 refine Tk 0 rfl rfl (pv_move rfl) rfl ?_
 refine Tk 1 rfl rfl (pv_eql rfl rfl) rfl ?_
 refine Tk 2 rfl rfl (pv_move rfl) rfl ?_
 refine AnyH.takec 3 rfl (by kernel_rfl) (by kernel_rfl) (by kernel_rfl) PF.pf rfl rfl (fun hg => pv_fieldAddr0 rfl rfl) rfl ?_
 refine AnyH.takec 4 rfl (by kernel_rfl) (by kernel_rfl) (by kernel_rfl) PF.pf rfl rfl (fun hg => Pv.setE (t := 20) rfl (cv_pos hg) (pv_load rfl rfl rfl)) rfl ?_
 refine AnyH.takec 5 rfl (by kernel_rfl) (by kernel_rfl) (by kernel_rfl) PF.pf rfl rfl (fun hg => Pv.setE (t := 20) rfl (cv_pos hg) (Pv.setE (t := 21) rfl (cv_pos hg) (pv_neq rfl rfl))) rfl ?_
 refine Tk 6 rfl rfl (pv_pick_and rfl rfl) rfl ?_
 refine Tk 7 rfl rfl (pv_move rfl) rfl ?_
 refine AnyH.split (t := 24) rfl (fun h2 => ?_) (fun h2 => ?_)
 ·
  refine Tk 8 rfl ⟨_, _, rfl, rfl, rfl⟩ (pv_move rfl) rfl ?_
  refine Tk 9 rfl ⟨_, _, rfl, rfl, rfl⟩ (pv_nilCheck rfl) rfl ?_
  refine Tk 10 rfl ⟨_, _, rfl, rfl, rfl⟩ (pv_fieldAddr0 rfl rfl) rfl ?_
  refine Tk 11 rfl ⟨_, _, rfl, rfl, rfl⟩ (pv_fieldAddr0 rfl rfl) rfl ?_
  refine Tk 12 rfl ⟨_, _, rfl, rfl, rfl⟩ (pv_load rfl rfl rfl) rfl ?_
  refine Tk 13 rfl ⟨_, _, rfl, rfl, rfl⟩ (pv_fieldAddr0 rfl rfl) rfl ?_
  refine Tk 14 rfl ⟨_, _, rfl, rfl, rfl⟩ (pv_load rfl rfl rfl) rfl ?_
  refine Tk 15 rfl ⟨_, _, rfl, rfl, rfl⟩ (pv_fieldAddr0 rfl rfl) rfl ?_
  refine Tk 16 rfl ⟨_, _, rfl, rfl, rfl⟩ (pv_load rfl rfl rfl) rfl ?_
  refine AnyH.one 17 (by kernel_rfl) ?_
  refine Turn.ef rfl ⟨_, _, rfl, rfl, rfl⟩ (ef_callr (sf_count hS (dget p.l s).1.kind (dget p.l s).1.object) rfl rfl) ?_ ?_
  ·
   rintro _ _ ⟨rfl, rfl⟩; infer_instance
  rintro _ _ ⟨rfl, rfl⟩
  refine Tk 18 rfl ⟨_, _, rfl, rfl, rfl⟩ (pv_eql rfl rfl) rfl ?_
  refine Tk 19 rfl rfl (pv_pick_true rfl rfl) rfl ?_
  refine Tk 20 rfl rfl (pv_assign rfl) rfl ?_
  refine AnyH.done (by kernel_rfl) ?_
  refine Ends.seq ?_
  refine Wp.ret ?_
  exact Ends.ret (res1 rfl rfl) ⟨by first | rw [fin_1 (by assumption)] | rw [fin_0 (by assumption)], rfl⟩
 refine Ts 8 rfl ⟨_, _, rfl, rfl, rfl⟩ rfl ?_
 refine Ts 9 rfl ⟨_, _, rfl, rfl, rfl⟩ rfl ?_
 refine Ts 10 rfl ⟨_, _, rfl, rfl, rfl⟩ rfl ?_
 refine Ts 11 rfl ⟨_, _, rfl, rfl, rfl⟩ rfl ?_
 refine Ts 12 rfl ⟨_, _, rfl, rfl, rfl⟩ rfl ?_
 refine Ts 13 rfl ⟨_, _, rfl, rfl, rfl⟩ rfl ?_
 refine Ts 14 rfl ⟨_, _, rfl, rfl, rfl⟩ rfl ?_
 refine Ts 15 rfl ⟨_, _, rfl, rfl, rfl⟩ rfl ?_
 refine Ts 16 rfl ⟨_, _, rfl, rfl, rfl⟩ rfl ?_
 refine Ts 17 rfl ⟨_, _, rfl, rfl, rfl⟩ rfl ?_
 refine Ts 18 rfl ⟨_, _, rfl, rfl, rfl⟩ rfl ?_
 refine Tk 19 rfl rfl (pv_pick_false rfl rfl) rfl ?_
 refine Tk 20 rfl rfl (pv_assign rfl) rfl ?_
 refine AnyH.done (by kernel_rfl) ?_
 refine Ends.seq ?_
 refine Wp.ret ?_
 exact Ends.ret (res1 rfl rfl) ⟨by first | rw [fin_1 (by assumption)] | rw [fin_0 (by assumption)], rfl⟩
theorem tr_rCheck (n cb : Nat) (L : Hp) (p : PS) (hH : CapsH n p cb L) (s : SlotM) (k : Int) : TrR Try.prog 63 [cpP cb, slotV s, .int .i64 k] (L) (.int .i64 (rvErr p.l s k)) := by
 obtain ⟨sb, tb, Ls, Lt, hS, hT, rfl⟩ := hH
 refine Tr.enter Try.func63 rfl Try.ntmps63 rfl (fun W F => ?_)
 refine Wp.app ?_
 refine Wp.seq ?_
 refine Wp.region ?_
 refine Ops.ef rfl (ef_boxK rfl rfl) ?_
 rintro _ _ ⟨b1, rfl, rfl⟩
 refine Ops.pv (pv_assign rfl) rfl ?_
 refine Ops.nil ?_
 refine Ends.seq ?_
 refine Wp.seq ?_
 refine Wp.seq ?_
 refine Wp.region ?_
 refine Ops.pv (pv_move rfl) rfl ?_
 refine Ops.pv (pv_lss rfl rfl) rfl ?_
 refine Ops.pv (pv_move rfl) rfl ?_
 refine Ops.pvcn rfl rfl (fun hg => pv_move rfl) rfl ?_
 refine Ops.pvcn rfl rfl (fun hg => Pv.setE (t := 12) rfl (cv_pos hg) (pv_gtr rfl rfl)) rfl ?_
 refine Ops.pv (pv_pick_or rfl rfl) rfl ?_
 refine Ops.nil ?_
 refine Ends.seq ?_
 refine Wp.cond_dect rfl (fun h1 => ?_) (fun h1 => ?_)
 ·
  refine Wp.seq ?_
  refine Wp.region ?_
  refine Ops.pv (pv_assign rfl) rfl ?_
  refine Ops.nil ?_
  refine Ends.seq ?_
  refine Wp.ret ?_
  refine Ends.then_ret ?_
  exact Ends.ret (res1 rfl rfl) ⟨by rw [rvErr_1 (by assumption)], rfl⟩
 refine Wp.skip ?_
 refine Ends.seq ?_
 refine Wp.seq ?_
 refine AnyH.start ((b1, .cells [.int .i64 s.1, .int .i64 s.2].toArray 38) :: cBlk cb sb tb :: []) 13 rfl ?_
 refine Tk 0 rfl rfl (pv_move rfl) rfl ?_
 refine Tk 1 rfl rfl (pv_nilCheck rfl) rfl ?_
 refine Tk 2 rfl rfl (pv_fieldAddr0 rfl rfl) rfl ?_
 refine Tk 3 rfl rfl (pv_fieldAddr0 rfl rfl) rfl ?_
 refine Tk 4 rfl rfl (pv_load rfl rfl rfl) rfl ?_
 refine Tk 5 rfl rfl (pv_loadK [_, _] rfl rfl rfl ⟨rfl, rfl, trivial⟩) rfl ?_
 refine AnyH.two 6 10 (by kernel_rfl) ?_ ?_
 ·
  refine Turn.ef rfl rfl (ef_callr (sf_get hS s) rfl rfl) ?_ ?_
  ·
   rintro _ _ ⟨rfl, rfl⟩; infer_instance
  rintro _ _ ⟨rfl, rfl⟩
  refine Tk 7 rfl rfl (pv_move rfl) rfl ?_
  refine Tk 8 rfl rfl (pv_extract rfl rfl) rfl ?_
  refine Tk 9 rfl rfl (pv_extract rfl rfl) rfl ?_
  refine AnyH.one 10 (by kernel_rfl) ?_
  refine Turn.ef rfl rfl (ef_allocK tyZ24 rfl) ?_ ?_
  ·
   rintro _ _ ⟨b2, rfl, rfl⟩; infer_instance
  rintro _ _ ⟨b2, rfl, rfl⟩
  refine AnyH.one 11 (by kernel_rfl) ?_
  refine Turn.ef rfl rfl (ef_storeK rfl rfl rfl rfl) ?_ ?_
  ·
   rintro _ _ ⟨rfl, rfl⟩; infer_instance
  rintro _ _ ⟨rfl, rfl⟩
  refine Tk 12 rfl rfl (pv_assign rfl) rfl ?_
  refine AnyH.done (by kernel_rfl) ?_
  refine Ends.seq ?_
  refine Wp.seq ?_
  refine Wp.seq ?_
  refine Wp.region ?_
  refine Ops.pv (pv_move rfl) rfl ?_
  refine Ops.pv (pv_eql rfl rfl) rfl ?_
  refine Ops.pv (pv_move rfl) rfl ?_
  refine Ops.pvc rfl rfl (fun hg => pv_fieldAddr0 rfl rfl) rfl ?_
  refine Ops.pvc rfl rfl (fun hg => Pv.setE (t := 28) rfl (cv_pos hg) (pv_load rfl rfl rfl)) rfl ?_
  refine Ops.pvc rfl rfl (fun hg => Pv.setE (t := 28) rfl (cv_pos hg) (Pv.setE (t := 29) rfl (cv_pos hg) (pv_eql rfl rfl))) rfl ?_
  refine Ops.pv (pv_pick_and rfl rfl) rfl ?_
  refine Ops.nil ?_
  refine Ends.seq ?_
  refine Wp.cond_dect rfl (fun h2 => ?_) (fun h2 => ?_)
  ·
   refine Wp.region ?_
   refine Ops.pv (pv_assign rfl) rfl ?_
   refine Ops.nil ?_
   refine Ends.seq ?_
   refine Wp.seq ?_
   refine Wp.region ?_
   refine Ops.pv (pv_move rfl) rfl ?_
   refine Ops.pv (pv_assign rfl) rfl ?_
   refine Ops.nil ?_
   refine Ends.seq ?_
   refine Wp.ret ?_
   exact Ends.ret (res1 rfl rfl) ⟨by rw [rvErr_2 (by assumption) (by assumption)], rfl⟩
  refine Wp.skip ?_
  refine Ends.seq ?_
  refine Wp.seq ?_
  refine Wp.region ?_
  refine Ops.pv (pv_move rfl) rfl ?_
  refine Ops.pv (pv_assign rfl) rfl ?_
  refine Ops.nil ?_
  refine Ends.seq ?_
  refine Wp.ret ?_
  exact Ends.ret (res1 rfl rfl) ⟨by rw [rvErr_3 (by assumption) (by assumption)], rfl⟩
 refine Turn.ef rfl rfl (ef_allocK tyZ24 rfl) ?_ ?_
 ·
  rintro _ _ ⟨b3, rfl, rfl⟩; infer_instance
 rintro _ _ ⟨b3, rfl, rfl⟩
 refine AnyH.one 6 (by kernel_rfl) ?_
 refine Turn.ef rfl rfl (ef_callr (sf_get hS s) rfl rfl) ?_ ?_
 ·
  rintro _ _ ⟨rfl, rfl⟩; infer_instance
 rintro _ _ ⟨rfl, rfl⟩
 refine Tk 7 rfl rfl (pv_move rfl) rfl ?_
 refine Tk 8 rfl rfl (pv_extract rfl rfl) rfl ?_
 refine Tk 9 rfl rfl (pv_extract rfl rfl) rfl ?_
 refine AnyH.one 11 (by kernel_rfl) ?_
 refine Turn.ef rfl rfl (ef_storeK rfl rfl rfl rfl) ?_ ?_
 ·
  rintro _ _ ⟨rfl, rfl⟩; infer_instance
 rintro _ _ ⟨rfl, rfl⟩
 refine Tk 12 rfl rfl (pv_assign rfl) rfl ?_
 refine AnyH.done (by kernel_rfl) ?_
 refine Ends.seq ?_
 refine Wp.seq ?_
 refine Wp.seq ?_
 refine Wp.region ?_
 refine Ops.pv (pv_move rfl) rfl ?_
 refine Ops.pv (pv_eql rfl rfl) rfl ?_
 refine Ops.pv (pv_move rfl) rfl ?_
 refine Ops.pvc rfl rfl (fun hg => pv_fieldAddr0 rfl rfl) rfl ?_
 refine Ops.pvc rfl rfl (fun hg => Pv.setE (t := 28) rfl (cv_pos hg) (pv_load rfl rfl rfl)) rfl ?_
 refine Ops.pvc rfl rfl (fun hg => Pv.setE (t := 28) rfl (cv_pos hg) (Pv.setE (t := 29) rfl (cv_pos hg) (pv_eql rfl rfl))) rfl ?_
 refine Ops.pv (pv_pick_and rfl rfl) rfl ?_
 refine Ops.nil ?_
 refine Ends.seq ?_
 refine Wp.cond_dect rfl (fun h3 => ?_) (fun h3 => ?_)
 ·
  refine Wp.region ?_
  refine Ops.pv (pv_assign rfl) rfl ?_
  refine Ops.nil ?_
  refine Ends.seq ?_
  refine Wp.seq ?_
  refine Wp.region ?_
  refine Ops.pv (pv_move rfl) rfl ?_
  refine Ops.pv (pv_assign rfl) rfl ?_
  refine Ops.nil ?_
  refine Ends.seq ?_
  refine Wp.ret ?_
  exact Ends.ret (res1 rfl rfl) ⟨by rw [rvErr_2 (by assumption) (by assumption)], rfl⟩
 refine Wp.skip ?_
 refine Ends.seq ?_
 refine Wp.seq ?_
 refine Wp.region ?_
 refine Ops.pv (pv_move rfl) rfl ?_
 refine Ops.pv (pv_assign rfl) rfl ?_
 refine Ops.nil ?_
 refine Ends.seq ?_
 refine Wp.ret ?_
 exact Ends.ret (res1 rfl rfl) ⟨by rw [rvErr_3 (by assumption) (by assumption)], rfl⟩
theorem tr_tkGet (n cb tk m : Nat) (v : Value) (L : Hp) (p : PS) (hH : CapsH n p cb L) (s : SlotM) : TrR Try.prog 68 [tkP tk, slotV s] (tkBlk tk cb m v :: L) ((dget p.l s).1.v) := by
 obtain ⟨sb, tb, Ls, Lt, hS, hT, rfl⟩ := hH
 refine Tr.enter Try.func68 rfl Try.ntmps68 rfl (fun W F => ?_)
 refine Wp.app ?_
 refine Wp.seq ?_
 refine Wp.region ?_
 refine Ops.ef rfl (ef_boxK rfl rfl) ?_
 rintro _ _ ⟨b1, rfl, rfl⟩
 refine Ops.ef rfl (ef_allocK tyZ24 rfl) ?_
 rintro _ _ ⟨b2, rfl, rfl⟩
 refine Ops.nil ?_
 refine Ends.seq ?_
 refine Wp.seq ?_
 refine AnyH.start ((b1, .cells [.int .i64 s.1, .int .i64 s.2].toArray 38) :: tkBlk tk cb m v :: cBlk cb sb tb :: []) 16 rfl ?_
 refine Tk 0 rfl rfl (pv_move rfl) rfl ?_
 refine Tk 1 rfl rfl (pv_nilCheck rfl) rfl ?_
 refine Tk 2 rfl rfl (pv_fieldAddr0 rfl rfl) rfl ?_
 refine Tk 3 rfl rfl (pv_load rfl rfl rfl) rfl ?_
 refine Tk 4 rfl rfl (pv_nilCheck rfl) rfl ?_
 refine Tk 5 rfl rfl (pv_fieldAddr0 rfl rfl) rfl ?_
 refine Tk 6 rfl rfl (pv_fieldAddr0 rfl rfl) rfl ?_
 refine Tk 7 rfl rfl (pv_load rfl rfl rfl) rfl ?_
 refine Tk 8 rfl rfl (pv_loadK [_, _] rfl rfl rfl ⟨rfl, rfl, trivial⟩) rfl ?_
 refine AnyH.two 9 13 (by kernel_rfl) ?_ ?_
 ·
  refine Turn.ef rfl rfl (ef_callr (sf_get hS s) rfl rfl) ?_ ?_
  ·
   rintro _ _ ⟨rfl, rfl⟩; infer_instance
  rintro _ _ ⟨rfl, rfl⟩
  refine Tk 10 rfl rfl (pv_move rfl) rfl ?_
  refine Tk 11 rfl rfl (pv_extract rfl rfl) rfl ?_
  refine Tk 12 rfl rfl (pv_extract rfl rfl) rfl ?_
  refine AnyH.one 13 (by kernel_rfl) ?_
  refine Turn.ef rfl rfl (ef_allocK tyZ24 rfl) ?_ ?_
  ·
   rintro _ _ ⟨b3, rfl, rfl⟩; infer_instance
  rintro _ _ ⟨b3, rfl, rfl⟩
  refine AnyH.one 14 (by kernel_rfl) ?_
  refine Turn.ef rfl rfl (ef_storeK rfl rfl rfl rfl) ?_ ?_
  ·
   rintro _ _ ⟨rfl, rfl⟩; infer_instance
  rintro _ _ ⟨rfl, rfl⟩
  refine Tk 15 rfl rfl (pv_assign rfl) rfl ?_
  refine AnyH.done (by kernel_rfl) ?_
  refine Ends.seq ?_
  refine Wp.seq ?_
  refine Wp.region ?_
  refine Ops.pv (pv_loadK [_, _, _, _, _, _] rfl rfl rfl ⟨rfl, rfl, rfl, rfl, rfl, rfl, trivial⟩) rfl ?_
  refine Ops.ef rfl (ef_storeK rfl rfl rfl rfl) ?_
  rintro _ _ ⟨rfl, rfl⟩
  refine Ops.nil ?_
  refine Ends.seq ?_
  refine Wp.ret ?_
  exact Ends.ret (res_one rfl (rv_cellK [_, _, _, _, _, _] rfl rfl rfl ⟨rfl, rfl, rfl, rfl, rfl, rfl, trivial⟩)) ⟨rfl, rfl⟩
 refine Turn.ef rfl rfl (ef_allocK tyZ24 rfl) ?_ ?_
 ·
  rintro _ _ ⟨b4, rfl, rfl⟩; infer_instance
 rintro _ _ ⟨b4, rfl, rfl⟩
 refine AnyH.one 9 (by kernel_rfl) ?_
 refine Turn.ef rfl rfl (ef_callr (sf_get hS s) rfl rfl) ?_ ?_
 ·
  rintro _ _ ⟨rfl, rfl⟩; infer_instance
 rintro _ _ ⟨rfl, rfl⟩
 refine Tk 10 rfl rfl (pv_move rfl) rfl ?_
 refine Tk 11 rfl rfl (pv_extract rfl rfl) rfl ?_
 refine Tk 12 rfl rfl (pv_extract rfl rfl) rfl ?_
 refine AnyH.one 14 (by kernel_rfl) ?_
 refine Turn.ef rfl rfl (ef_storeK rfl rfl rfl rfl) ?_ ?_
 ·
  rintro _ _ ⟨rfl, rfl⟩; infer_instance
 rintro _ _ ⟨rfl, rfl⟩
 refine Tk 15 rfl rfl (pv_assign rfl) rfl ?_
 refine AnyH.done (by kernel_rfl) ?_
 refine Ends.seq ?_
 refine Wp.seq ?_
 refine Wp.region ?_
 refine Ops.pv (pv_loadK [_, _, _, _, _, _] rfl rfl rfl ⟨rfl, rfl, rfl, rfl, rfl, rfl, trivial⟩) rfl ?_
 refine Ops.ef rfl (ef_storeK rfl rfl rfl rfl) ?_
 rintro _ _ ⟨rfl, rfl⟩
 refine Ops.nil ?_
 refine Ends.seq ?_
 refine Wp.ret ?_
 exact Ends.ret (res_one rfl (rv_cellK [_, _, _, _, _, _] rfl rfl rfl ⟨rfl, rfl, rfl, rfl, rfl, rfl, trivial⟩)) ⟨rfl, rfl⟩
set_option maxHeartbeats 2000000 in
theorem tr_tkInner (G : Hp) (n cb tk m : Nat) (v : Value) (L : Hp) (p : PS) (hH : CapsH n p cb L) (hok : POk p) (node : Int) (a : Option Addr) (c : Nat) (l : List SlotM) (hv : View G 2 (.slice a l.length c) l.length (slotsCells l)) (hl : l.length ≤ 2 ^ 40) : TrR Try.prog 86 [tkP tk, .int .i64 node, .slice a l.length c] (G ++ (tkBlk tk cb m v :: L)) (.tuple #[slotV ((firstIn p.l l node).getD (0, 0)), .bool (firstIn p.l l node).isSome]) := by
 have hH0 := hH
 have hrd := dradix_le hok.rel node
 have hpw : 2 ^ (dradix p.l node).toNat ≤ 2 ^ 4 := Nat.pow_le_pow_right (by omega) (by omega)
 obtain ⟨sb, tb, Ls, Lt, hS, hT, rfl⟩ := hH
 refine Tr.enter Try.func86 rfl Try.ntmps86 rfl (fun W F => ?_)
 refine Wp.app ?_
 refine Wp.seq ?_
 refine Wp.region ?_
 refine Ops.ef rfl (ef_allocK tyZ38 rfl) ?_
 rintro _ _ ⟨b1, rfl, rfl⟩
 refine Ops.pv (pv_assign rfl) rfl ?_
 refine Ops.nil ?_
 refine Ends.seq ?_
 refine Wp.seq ?_
 refine Wp.region ?_
 refine Ops.pv (pv_move rfl) rfl ?_
 refine Ops.pv (pv_nilCheck rfl) rfl ?_
 refine Ops.pv (pv_fieldAddr0 rfl rfl) rfl ?_
 refine Ops.pv (pv_load rfl rfl rfl) rfl ?_
 refine Ops.pv (pv_nilCheck rfl) rfl ?_
 refine Ops.pv (pv_fieldAddr0 rfl rfl) rfl ?_
 refine Ops.pv (pv_fieldAddr0 rfl rfl) rfl ?_
 refine Ops.pv (pv_load rfl rfl rfl) rfl ?_
 refine Ops.pv (pv_move rfl) rfl ?_
 refine Ops.ef rfl (ef_callr (sf_radix hS node) rfl rfl) ?_
 rintro _ _ ⟨rfl, rfl⟩
 refine Ops.pv (pv_assign rfl) rfl ?_
 refine Ops.nil ?_
 refine Ends.seq ?_
 refine Wp.seq ?_
 refine Wp.seq ?_
 refine Wp.region ?_
 refine Ops.pv (pv_move rfl) rfl ?_
 refine Ops.pv (pv_eql rfl rfl) rfl ?_
 refine Ops.nil ?_
 refine Ends.seq ?_
 refine Wp.cond_dect rfl (fun h1 => ?_) (fun h1 => ?_)
 ·
  refine Wp.seq ?_
  refine Wp.region ?_
  refine Ops.pv (pv_build rfl) rfl ?_
  refine Ops.ef rfl (ef_storeK rfl rfl rfl rfl) ?_
  rintro _ _ ⟨rfl, rfl⟩
  refine Ops.pv (pv_assign rfl) rfl ?_
  refine Ops.nil ?_
  refine Ends.seq ?_
  refine Wp.ret ?_
  refine Ends.then_ret ?_
  exact Ends.ret (res_list (rs := [.cell 6 38, .tmp 7]) rfl ⟨_, _, rfl, rv_cellK [_, _] rfl rfl rfl ⟨rfl, rfl, trivial⟩, ⟨_, _, rfl, rv_tmp rfl, rfl⟩⟩ rfl) ⟨by rw [firstIn_0 (by assumption)]; rfl, rfl⟩
 refine Wp.skip ?_
 refine Ends.seq ?_
 refine Wp.seq ?_
 refine Wp.seq ?_
 refine Wp.region ?_
 refine Ops.pv (pv_move rfl) rfl ?_
 refine Ops.pv (pv_shl rfl rfl (by omega) (shl_r hrd)) rfl ?_
 refine Ops.pv (pv_move rfl) rfl ?_
 refine Ops.nil ?_
 refine Ends.seq ?_
 refine Wp.block ?_
 refine Wp.loopK (σ := Nat) [(0, _), (1, _), (2, _), (6, _), (25, _)] (fun s => [(26, .int .i64 s)]) (fun s => (b1, .cells [.int .i64 0, .int .i64 0].toArray 38) :: (G ++ (tkBlk tk cb m v :: (cBlk cb sb tb :: (Ls ++ (Lt ++ F)))))) (fun s => s ≤ 2 ^ (dradix p.l node).toNat ∧ ∀ j : Nat, j < s → ((node, (j : Int)) ∈ l ∨ (dget p.l (node, (j : Int))).1.kind = 0)) (fun s => 2 ^ (dradix p.l node).toNat - s) 0 ⟨Nat.zero_le _, fun j hj => absurd hj (Nat.not_lt_zero j)⟩ ⟨rfl, rfl, rfl, rfl, rfl, trivial⟩ ⟨rfl, trivial⟩ (by intro w ho; (try dsimp only [List.nil_append, List.cons_append]); exact Drop.own ho) ?_
 rintro i KK ⟨hi, hn⟩ hK
 dsimp only [List.cons_append, List.nil_append] at hK ⊢
 refine Wp.seq ?_
 refine Wp.region ?_
 refine Ops.pv (pv_lss rfl rfl) rfl ?_
 refine Ops.nil ?_
 refine Ends.seq ?_
 refine Wp.seq ?_
 refine Wp.cond_dect rfl (fun h2 => ?_) (fun h2 => ?_)
 ·
  refine Wp.skip ?_
  refine Ends.seq ?_
  refine Wp.seq ?_
  refine Wp.block ?_
  refine Wp.seq ?_
  refine Wp.region ?_
  refine Ops.pv (pv_move rfl) rfl ?_
  refine Ops.pv (pv_assign rfl) rfl ?_
  refine Ops.nil ?_
  refine Ends.seq ?_
  refine Wp.seq ?_
  refine Wp.region ?_
  refine Ops.pv (pv_move rfl) rfl ?_
  refine Ops.pv (pv_move rfl) rfl ?_
  refine Ops.pv (pv_build rfl) rfl ?_
  refine Ops.ef rfl (ef_allocK tyZ38 rfl) ?_
  rintro _ _ ⟨b2, rfl, rfl⟩
  refine Ops.ef rfl (ef_storeK rfl rfl rfl rfl) ?_
  rintro _ _ ⟨rfl, rfl⟩
  refine Ops.nil ?_
  refine Ends.seq ?_
  refine Wp.seq ?_
  refine Wp.region ?_
  refine Ops.pv (pv_move rfl) rfl ?_
  refine Ops.pv (pv_loadK [_, _] rfl rfl rfl ⟨rfl, rfl, trivial⟩) rfl ?_
  refine Ops.ef rfl (ef_callr (tr_slContains G a c l (node, (i : Int)) hv hl) rfl rfl) ?_
  rintro _ _ ⟨rfl, rfl⟩
  refine Ops.pv (pv_not_dec rfl) rfl ?_
  refine Ops.pv (pv_move rfl) rfl ?_
  refine Ops.split (t := 36) rfl (fun h3 => ?_) (fun h3 => ?_)
  ·
   refine Ops.pvg ⟨_, _, rfl, rfl, rfl⟩ (pv_move rfl) rfl ?_
   refine Ops.pvg ⟨_, _, rfl, rfl, rfl⟩ (pv_loadK [_, _] rfl rfl rfl ⟨rfl, rfl, trivial⟩) rfl ?_
   refine Ops.efg ⟨_, _, rfl, rfl, rfl⟩ (ef_callr (tr_tkGet n cb tk m v (cBlk cb sb tb :: (Ls ++ Lt)) p hH0 (node, (i : Int))) rfl rfl) ?_
   rintro _ _ ⟨rfl, rfl⟩
   refine Ops.pvg ⟨_, _, rfl, rfl, rfl⟩ (pv_field rfl rfl rfl) rfl ?_
   refine Ops.pvg ⟨_, _, rfl, rfl, rfl⟩ (pv_neq rfl rfl) rfl ?_
   refine Ops.pv (pv_pick_true rfl rfl) rfl ?_
   refine Ops.nil ?_
   refine Ends.seq ?_
   refine Wp.cond_dect rfl (fun h4 => ?_) (fun h4 => ?_)
   ·
    refine Wp.seq ?_
    refine Wp.region ?_
    refine Ops.pv (pv_loadK [_, _] rfl rfl rfl ⟨rfl, rfl, trivial⟩) rfl ?_
    refine Ops.ef rfl (ef_storeK rfl rfl rfl rfl) ?_
    rintro _ _ ⟨rfl, rfl⟩
    refine Ops.pv (pv_assign rfl) rfl ?_
    refine Ops.nil ?_
    refine Ends.seq ?_
    refine Wp.ret ?_
    refine Ends.block_ret ?_
    refine Ends.then_ret ?_
    refine Ends.then_ret ?_
    refine Ends.block_ret ?_
    refine Ends.then_ret ?_
    have hc : (node, (i : Int)) ∉ l ∧ (dget p.l (node, (i : Int))).1.kind ≠ 0 := by first | assumption | exact ⟨by assumption, by assumption⟩
    exact Ends.ret (res_list (rs := [.cell 6 38, .tmp 7]) rfl ⟨_, _, rfl, rv_cellK [_, _] rfl rfl rfl ⟨rfl, rfl, trivial⟩, ⟨_, _, rfl, rv_tmp rfl, rfl⟩⟩ rfl) ⟨by rw [firstIn_hit (i := i) (by assumption) (by omega) hn hc.1 hc.2]; rfl, rfl⟩
   refine Wp.skip ?_
   refine Ends.block_normal ?_
   refine Ends.seq ?_
   refine Wp.region ?_
   refine Ops.pv (pv_add rfl rfl (w64n (k := i + 1) (by omega) (by omega))) rfl ?_
   refine Ops.pv (pv_move rfl) rfl ?_
   refine Ops.nil ?_
   refine Ends.goes ?_
   refine Goes.back (hK (i + 1) ⟨by omega, fun j hj => ?_⟩ (by omega)) ⟨rfl, rfl, rfl, rfl, rfl, rfl, trivial⟩
   rcases Nat.lt_succ_iff_lt_or_eq.1 hj with hj | rfl
   ·
    exact hn j hj
   simp_all
  refine Ops.skipg ⟨_, _, rfl, rfl, rfl⟩ rfl ?_
  refine Ops.skipg ⟨_, _, rfl, rfl, rfl⟩ rfl ?_
  refine Ops.skipg ⟨_, _, rfl, rfl, rfl⟩ rfl ?_
  refine Ops.skipg ⟨_, _, rfl, rfl, rfl⟩ rfl ?_
  refine Ops.skipg ⟨_, _, rfl, rfl, rfl⟩ rfl ?_
  refine Ops.pv (pv_pick_false rfl rfl) rfl ?_
  refine Ops.nil ?_
  refine Ends.seq ?_
  refine Wp.cond_false rfl ?_
  refine Wp.skip ?_
  refine Ends.block_normal ?_
  refine Ends.seq ?_
  refine Wp.region ?_
  refine Ops.pv (pv_add rfl rfl (w64n (k := i + 1) (by omega) (by omega))) rfl ?_
  refine Ops.pv (pv_move rfl) rfl ?_
  refine Ops.nil ?_
  refine Ends.goes ?_
  refine Goes.back (hK (i + 1) ⟨by omega, fun j hj => ?_⟩ (by omega)) ⟨rfl, rfl, rfl, rfl, rfl, rfl, trivial⟩
  rcases Nat.lt_succ_iff_lt_or_eq.1 hj with hj | rfl
  ·
   exact hn j hj
  simp_all
 refine Wp.exit ?_
 refine Ends.then_exit ?_
 refine Ends.then_exit ?_
 refine Ends.block_hit ?_
 refine Ends.seq ?_
 refine Wp.seq ?_
 refine Wp.region ?_
 refine Ops.pv (pv_build rfl) rfl ?_
 refine Ops.ef rfl (ef_storeK rfl rfl rfl rfl) ?_
 rintro _ _ ⟨rfl, rfl⟩
 refine Ops.pv (pv_assign rfl) rfl ?_
 refine Ops.nil ?_
 refine Ends.seq ?_
 refine Wp.ret ?_
 exact Ends.ret (res_list (rs := [.cell 6 38, .tmp 7]) rfl ⟨_, _, rfl, rv_cellK [_, _] rfl rfl rfl ⟨rfl, rfl, trivial⟩, ⟨_, _, rfl, rv_tmp rfl, rfl⟩⟩ rfl) ⟨by rw [firstIn_miss (fun j hj => hn j (by omega))]; rfl, rfl⟩
end Go.Proofs.Ytdodfnjmkpgdbaa
end
section
set_option linter.unusedVariables false
set_option linter.unusedSimpArgs false
namespace Go.Proofs.Ytdodfnjmkpgdbaa
open Go.SL
theorem stepT_n {t : TS} {s : SlotM} (h : ¬ fin t.p.l s) : stepT t s = ⟨(mTake t.p s).2.2, t.told, t.n - 1⟩ := by unfold stepT; rw [if_neg (fun k => h k.1), if_neg h]
theorem stepT_f {t : TS} {s : SlotM} (h : fin t.p.l s) (h2 : ¬ (dget t.p.l s).1.kind = 2) : stepT t s = ⟨(mTake t.p s).2.2, t.told ++ [(dget t.p.l s).1], t.n - 1⟩ := by unfold stepT; rw [if_neg (fun k => h2 k.2), if_pos h]
theorem stepT_c {t : TS} {s : SlotM} (h : fin t.p.l s) (h2 : (dget t.p.l s).1.kind = 2) : stepT t s = ⟨(mClear (mTake t.p s).2.2 (dget t.p.l s).1.object).2, t.told ++ [(dget t.p.l s).1], t.n - 1⟩ := by unfold stepT; rw [if_pos ⟨h, h2⟩, if_pos h]
def TkI (n : Nat) (t : TS) (cb : Nat) (v : Value) (T H : Hp) : Prop := CapsH n t.p cb H ∧ Slc 24 6 v t.told.length (cel CapM.cells t.told) T ∧ POk t.p ∧ t.told.length + t.n ≤ 1000
set_option maxHeartbeats 4000000 in
theorem tr_tkStep (n cb tk : Nat) (t : TS) (v : Value) (T H : Hp) (hI : TkI n t cb v T H) (hn : n ≤ 2 ^ 19) (s : SlotM) : TrE Try.prog 87 [tkP tk, slotV s] (tkBlk tk cb t.n v :: (T ++ H)) (fun u L' => u = .tuple #[] ∧ t.n ≠ 0 ∧ ∃ v' T' H', TkI n (stepT t s) cb v' T' H' ∧ L' = tkBlk tk cb (stepT t s).n v' :: (T' ++ H')) (fun c L' => c = spentC ∧ t.n = 0 ∧ L' = tkBlk tk cb t.n v :: (T ++ H)) := by
 obtain ⟨hC, hsl, hok, hb⟩ := hI
 have htf : (mTake t.p s).1 = (dget t.p.l s).1 := take_fst hok.rel
 refine TrE.enter Try.func87 rfl Try.ntmps87 rfl (fun W F => ?_)
 refine Wp.app ?_
 refine Wp.seq ?_
 refine Wp.region ?_
 refine Ops.ef rfl (ef_boxK rfl rfl) ?_
 rintro _ _ ⟨b1, rfl, rfl⟩
 refine Ops.nil ?_
 refine Ends.seq ?_
 refine Wp.seq ?_
 refine Wp.seq ?_
 refine Wp.region ?_
 refine Ops.pv (pv_move rfl) rfl ?_
 refine Ops.pv (pv_nilCheck rfl) rfl ?_
 refine Ops.pv (pv_fieldAddr0 rfl rfl) rfl ?_
 refine Ops.pv (pv_load rfl rfl rfl) rfl ?_
 refine Ops.pv (pv_eql rfl rfl) rfl ?_
 refine Ops.nil ?_
 refine Ends.seq ?_
 refine Wp.cond_dect rfl (fun h1 => ?_) (fun h1 => ?_)
 ·
  refine Wp.region ?_
  refine Ops.pv (pv_build rfl) rfl ?_
  refine Ops.pv (pv_iface rfl rfl) rfl ?_
  exact Ops.panic rfl ⟨tkBlk tk cb t.n v :: (T ++ H), ⟨rfl, by omega, rfl⟩, inferInstance⟩
 refine Wp.skip ?_
 refine Ends.seq ?_
 refine Wp.seq ?_
 refine Wp.region ?_
 refine Ops.pv (pv_move rfl) rfl ?_
 refine Ops.pv (pv_nilCheck rfl) rfl ?_
 refine Ops.pv (pv_fieldAddr0 rfl rfl) rfl ?_
 refine Ops.pv (pv_load rfl rfl rfl) rfl ?_
 refine Ops.pv (pv_sub rfl rfl (w64n (k := t.n - 1) (by omega) (by omega))) rfl ?_
 refine Ops.pv (pv_nilCheck rfl) rfl ?_
 refine Ops.pv (pv_fieldAddr0 rfl rfl) rfl ?_
 refine Ops.ef rfl (ef_store1 rfl rfl (by first | rfl | assumption) (by first | rfl | assumption)) ?_
 rintro _ _ ⟨rfl, rfl⟩
 refine Ops.nil ?_
 refine Ends.seq ?_
 refine Wp.seq ?_
 refine AnyH.start ((b1, .cells [.int .i64 s.1, .int .i64 s.2].toArray 38) :: tkBlk tk cb (t.n - 1) v :: []) 7 rfl ?_
 refine Tk 0 rfl rfl (pv_move rfl) rfl ?_
 refine Tk 1 rfl rfl (pv_nilCheck rfl) rfl ?_
 refine Tk 2 rfl rfl (pv_fieldAddr0 rfl rfl) rfl ?_
 refine Tk 3 rfl rfl (pv_load rfl rfl rfl) rfl ?_
 refine Tk 4 rfl rfl (pv_loadK [_, _] rfl rfl rfl ⟨rfl, rfl, trivial⟩) rfl ?_
 refine AnyH.one 5 (by kernel_rfl) ?_
 refine Turn.ef rfl rfl (ef_callr (tr_rFinal n cb H t.p hC s) rfl rfl) ?_ ?_
 ·
  rintro _ _ ⟨rfl, rfl⟩; infer_instance
 rintro _ _ ⟨rfl, rfl⟩
 refine Tk 6 rfl rfl (pv_assign rfl) rfl ?_
 refine AnyH.done (by kernel_rfl) ?_
 refine Ends.seq ?_
 refine Wp.seq ?_
 refine AnyH.start ((b1, .cells [.int .i64 s.1, .int .i64 s.2].toArray 38) :: tkBlk tk cb (t.n - 1) v :: []) 12 rfl ?_
 refine Tk 0 rfl rfl (pv_move rfl) rfl ?_
 refine Tk 1 rfl rfl (pv_nilCheck rfl) rfl ?_
 refine Tk 2 rfl rfl (pv_fieldAddr0 rfl rfl) rfl ?_
 refine Tk 3 rfl rfl (pv_load rfl rfl rfl) rfl ?_
 refine Tk 4 rfl rfl (pv_loadK [_, _] rfl rfl rfl ⟨rfl, rfl, trivial⟩) rfl ?_
 refine AnyH.two 5 9 (by kernel_rfl) ?_ ?_
 ·
  refine Turn.ef rfl rfl (ef_call (tr_mTake n cb H t.p hC hn s) rfl rfl) ?_ ?_
  ·
   rintro _ _ ⟨_, Q1, ⟨rfl, hC2⟩, rfl, rfl⟩; infer_instance
  rintro _ _ ⟨_, Q1, ⟨rfl, hC2⟩, rfl, rfl⟩
  refine AnyH.app ?_
  rw [htf]
  refine Tk 6 rfl rfl (pv_move rfl) rfl ?_
  refine Tk 7 rfl rfl (pv_extract rfl rfl) rfl ?_
  refine Tk 8 rfl rfl (pv_extract rfl rfl) rfl ?_
  refine AnyH.one 9 (by kernel_rfl) ?_
  refine Turn.ef rfl rfl (ef_allocK tyZ24 rfl) ?_ ?_
  ·
   rintro _ _ ⟨b2, rfl, rfl⟩; infer_instance
  rintro _ _ ⟨b2, rfl, rfl⟩
  refine AnyH.one 10 (by kernel_rfl) ?_
  refine Turn.ef rfl rfl (ef_storeK rfl rfl rfl rfl) ?_ ?_
  ·
   rintro _ _ ⟨rfl, rfl⟩; infer_instance
  rintro _ _ ⟨rfl, rfl⟩
  refine Tk 11 rfl rfl (pv_assign rfl) rfl ?_
  refine AnyH.done (by kernel_rfl) ?_
  refine Ends.seq ?_
  refine Wp.seq ?_
  refine Wp.seq ?_
  refine Wp.region ?_
  refine Ops.pv (pv_move rfl) rfl ?_
  refine Ops.pv (pv_not_dec rfl) rfl ?_
  refine Ops.nil ?_
  refine Ends.seq ?_
  refine Wp.cond_dect rfl (fun h2 => ?_) (fun h2 => ?_)
  ·
   refine Wp.ret ?_
   refine Ends.then_ret ?_
   have hsok := stepT_ok hok s
   have he := stepT_n (t := t) (s := s) (by assumption)
   rw [he] at hsok ⊢
   exact Ends.retE (L' := tkBlk tk cb (t.n - 1) v :: (T ++ Q1)) (res0 rfl) ⟨rfl, by omega, v, T, Q1, ⟨hC2, hsl, hsok, by simp only [List.length_append, List.length_singleton]; omega⟩, rfl⟩
  refine Wp.skip ?_
  refine Ends.seq ?_
  refine Wp.seq ?_
  refine AnyH.start ((b2, .cells (dget t.p.l s).1.cells.toArray 24) :: []) 11 rfl ?_
  refine Tk 0 rfl rfl (pv_move rfl) rfl ?_
  refine Tk 1 rfl rfl (pv_move rfl) rfl ?_
  refine Tk 2 rfl rfl (pv_nilCheck rfl) rfl ?_
  refine Tk 3 rfl rfl (pv_fieldAddr0 rfl rfl) rfl ?_
  refine Tk 5 rfl rfl (pv_loadK [_, _, _, _, _, _] rfl rfl rfl ⟨rfl, rfl, rfl, rfl, rfl, rfl, trivial⟩) rfl ?_
  refine AnyH.two 4 6 (by kernel_rfl) ?_ ?_
  ·
   refine Turn.ef rfl rfl (ef_pv (pv_load rfl rfl rfl) rfl) ?_ ?_
   ·
    rintro _ _ ⟨rfl, rfl⟩; infer_instance
   rintro _ _ ⟨rfl, rfl⟩
   refine AnyH.one 6 (by kernel_rfl) ?_
   refine Turn.ef rfl rfl (ef_buildSlice1 (k := 6) rfl rfl rfl rfl rfl) ?_ ?_
   ·
    rintro _ _ ⟨b3, rfl, rfl⟩; infer_instance
   rintro _ _ ⟨b3, rfl, rfl⟩
   refine AnyH.one 7 (by kernel_rfl) ?_
   refine Turn.ef rfl rfl (ef_append (H := T) (xs := (dget t.p.l s).1.cells) rfl hsl rfl ⟨rfl, rfl, rfl, rfl, rfl, rfl, trivial⟩ rfl rfl rfl (by omega) (by omega) rfl rfl) ?_ ?_
   ·
    rintro _ _ ⟨u1, K1, hu1, rfl, rfl⟩; infer_instance
   rintro _ _ ⟨u1, K1, hu1, rfl, rfl⟩
   refine AnyH.app ?_
   have ho1 := hu1.one
   have ho2 := hu1.cells1
   refine Tk 8 rfl rfl (pv_nilCheck rfl) rfl ?_
   refine Tk 9 rfl rfl (pv_fieldAddr0 rfl rfl) rfl ?_
   refine AnyH.one 10 (by kernel_rfl) ?_
   refine Turn.ef rfl rfl (ef_store1 rfl rfl (by first | rfl | assumption) (by first | rfl | assumption)) ?_ ?_
   ·
    rintro _ _ ⟨rfl, rfl⟩; infer_instance
   rintro _ _ ⟨rfl, rfl⟩
   refine AnyH.done (by kernel_rfl) ?_
   refine Ends.seq ?_
   refine Wp.seq ?_
   refine Wp.region ?_
   refine Ops.pv (pv_fieldAddr0 rfl rfl) rfl ?_
   refine Ops.pv (pv_load rfl rfl rfl) rfl ?_
   refine Ops.pv (pv_eql rfl rfl) rfl ?_
   refine Ops.nil ?_
   refine Ends.seq ?_
   refine Wp.cond_dect rfl (fun h3 => ?_) (fun h3 => ?_)
   ·
    obtain ⟨sb, tb, Ls, Lt, hS, hT, rfl⟩ := hC2
    rw [List.cons_append, List.append_assoc]
    refine AnyH.start (tkBlk tk cb (t.n - 1) u1 :: (b2, .cells (dget t.p.l s).1.cells.toArray 24) :: cBlk cb sb tb :: []) 10 rfl ?_
    refine Tk 0 rfl rfl (pv_move rfl) rfl ?_
    refine Tk 1 rfl rfl (pv_nilCheck rfl) rfl ?_
    refine Tk 2 rfl rfl (pv_fieldAddr0 rfl rfl) rfl ?_
    refine Tk 3 rfl rfl (pv_load rfl rfl rfl) rfl ?_
    refine Tk 4 rfl rfl (pv_nilCheck rfl) rfl ?_
    refine Tk 5 rfl rfl (pv_fieldAddr0 rfl rfl) rfl ?_
    refine Tk 6 rfl rfl (pv_loadK [_] rfl rfl rfl ⟨rfl, trivial⟩) rfl ?_
    refine Tk 7 rfl rfl (pv_fieldAddr0 rfl rfl) rfl ?_
    refine Tk 8 rfl rfl (pv_load rfl rfl rfl) rfl ?_
    refine AnyH.one 9 (by kernel_rfl) ?_
    refine Turn.ef rfl rfl (ef_call (tr_smClear _ sb Ls hS (dget t.p.l s).1.object) rfl rfl) ?_ ?_
    ·
     rintro _ _ ⟨_, R1, ⟨rfl, hS2⟩, rfl, rfl⟩; infer_instance
    rintro _ _ ⟨_, R1, ⟨rfl, hS2⟩, rfl, rfl⟩
    refine AnyH.app ?_
    skip
    refine AnyH.done (by kernel_rfl) ?_
    have hsok := stepT_ok hok s
    have he := stepT_c (t := t) (s := s) (Decidable.not_not.1 (by assumption)) (by assumption)
    rw [he] at hsok ⊢
    exact Ends.finE (L' := tkBlk tk cb (t.n - 1) u1 :: (K1 ++ (cBlk cb sb tb :: (R1 ++ Lt)))) (res0 rfl) ⟨rfl, by omega, u1, K1, (cBlk cb sb tb :: (R1 ++ Lt)), ⟨⟨_, _, _, _, hS2, hT, rfl⟩, by rw [cel_app, cel_one1]; simpa using hu1, hsok, by simp only [List.length_append, List.length_singleton]; omega⟩, rfl⟩
   refine Wp.skip ?_
   have hsok := stepT_ok hok s
   have he := stepT_f (t := t) (s := s) (Decidable.not_not.1 (by assumption)) (by assumption)
   rw [he] at hsok ⊢
   exact Ends.finE (L' := tkBlk tk cb (t.n - 1) u1 :: (K1 ++ Q1)) (res0 rfl) ⟨rfl, by omega, u1, K1, Q1, ⟨hC2, by rw [cel_app, cel_one1]; simpa using hu1, hsok, by simp only [List.length_append, List.length_singleton]; omega⟩, rfl⟩
  refine Turn.ef rfl rfl (ef_buildSlice1 (k := 6) rfl rfl rfl rfl rfl) ?_ ?_
  ·
   rintro _ _ ⟨b4, rfl, rfl⟩; infer_instance
  rintro _ _ ⟨b4, rfl, rfl⟩
  refine AnyH.one 4 (by kernel_rfl) ?_
  refine Turn.ef rfl rfl (ef_pv (pv_load rfl rfl rfl) rfl) ?_ ?_
  ·
   rintro _ _ ⟨rfl, rfl⟩; infer_instance
  rintro _ _ ⟨rfl, rfl⟩
  refine AnyH.one 7 (by kernel_rfl) ?_
  refine Turn.ef rfl rfl (ef_append (H := T) (xs := (dget t.p.l s).1.cells) rfl hsl rfl ⟨rfl, rfl, rfl, rfl, rfl, rfl, trivial⟩ rfl rfl rfl (by omega) (by omega) rfl rfl) ?_ ?_
  ·
   rintro _ _ ⟨u2, K2, hu2, rfl, rfl⟩; infer_instance
  rintro _ _ ⟨u2, K2, hu2, rfl, rfl⟩
  refine AnyH.app ?_
  have ho1 := hu2.one
  have ho2 := hu2.cells1
  refine Tk 8 rfl rfl (pv_nilCheck rfl) rfl ?_
  refine Tk 9 rfl rfl (pv_fieldAddr0 rfl rfl) rfl ?_
  refine AnyH.one 10 (by kernel_rfl) ?_
  refine Turn.ef rfl rfl (ef_store1 rfl rfl (by first | rfl | assumption) (by first | rfl | assumption)) ?_ ?_
  ·
   rintro _ _ ⟨rfl, rfl⟩; infer_instance
  rintro _ _ ⟨rfl, rfl⟩
  refine AnyH.done (by kernel_rfl) ?_
  refine Ends.seq ?_
  refine Wp.seq ?_
  refine Wp.region ?_
  refine Ops.pv (pv_fieldAddr0 rfl rfl) rfl ?_
  refine Ops.pv (pv_load rfl rfl rfl) rfl ?_
  refine Ops.pv (pv_eql rfl rfl) rfl ?_
  refine Ops.nil ?_
  refine Ends.seq ?_
  refine Wp.cond_dect rfl (fun h4 => ?_) (fun h4 => ?_)
  ·
   obtain ⟨sb, tb, Ls, Lt, hS, hT, rfl⟩ := hC2
   rw [List.cons_append, List.append_assoc]
   refine AnyH.start (tkBlk tk cb (t.n - 1) u2 :: (b2, .cells (dget t.p.l s).1.cells.toArray 24) :: cBlk cb sb tb :: []) 10 rfl ?_
   refine Tk 0 rfl rfl (pv_move rfl) rfl ?_
   refine Tk 1 rfl rfl (pv_nilCheck rfl) rfl ?_
   refine Tk 2 rfl rfl (pv_fieldAddr0 rfl rfl) rfl ?_
   refine Tk 3 rfl rfl (pv_load rfl rfl rfl) rfl ?_
   refine Tk 4 rfl rfl (pv_nilCheck rfl) rfl ?_
   refine Tk 5 rfl rfl (pv_fieldAddr0 rfl rfl) rfl ?_
   refine Tk 6 rfl rfl (pv_loadK [_] rfl rfl rfl ⟨rfl, trivial⟩) rfl ?_
   refine Tk 7 rfl rfl (pv_fieldAddr0 rfl rfl) rfl ?_
   refine Tk 8 rfl rfl (pv_load rfl rfl rfl) rfl ?_
   refine AnyH.one 9 (by kernel_rfl) ?_
   refine Turn.ef rfl rfl (ef_call (tr_smClear _ sb Ls hS (dget t.p.l s).1.object) rfl rfl) ?_ ?_
   ·
    rintro _ _ ⟨_, R2, ⟨rfl, hS2⟩, rfl, rfl⟩; infer_instance
   rintro _ _ ⟨_, R2, ⟨rfl, hS2⟩, rfl, rfl⟩
   refine AnyH.app ?_
   skip
   refine AnyH.done (by kernel_rfl) ?_
   have hsok := stepT_ok hok s
   have he := stepT_c (t := t) (s := s) (Decidable.not_not.1 (by assumption)) (by assumption)
   rw [he] at hsok ⊢
   exact Ends.finE (L' := tkBlk tk cb (t.n - 1) u2 :: (K2 ++ (cBlk cb sb tb :: (R2 ++ Lt)))) (res0 rfl) ⟨rfl, by omega, u2, K2, (cBlk cb sb tb :: (R2 ++ Lt)), ⟨⟨_, _, _, _, hS2, hT, rfl⟩, by rw [cel_app, cel_one1]; simpa using hu2, hsok, by simp only [List.length_append, List.length_singleton]; omega⟩, rfl⟩
  refine Wp.skip ?_
  have hsok := stepT_ok hok s
  have he := stepT_f (t := t) (s := s) (Decidable.not_not.1 (by assumption)) (by assumption)
  rw [he] at hsok ⊢
  exact Ends.finE (L' := tkBlk tk cb (t.n - 1) u2 :: (K2 ++ Q1)) (res0 rfl) ⟨rfl, by omega, u2, K2, Q1, ⟨hC2, by rw [cel_app, cel_one1]; simpa using hu2, hsok, by simp only [List.length_append, List.length_singleton]; omega⟩, rfl⟩
 refine Turn.ef rfl rfl (ef_allocK tyZ24 rfl) ?_ ?_
 ·
  rintro _ _ ⟨b5, rfl, rfl⟩; infer_instance
 rintro _ _ ⟨b5, rfl, rfl⟩
 refine AnyH.one 5 (by kernel_rfl) ?_
 refine Turn.ef rfl rfl (ef_call (tr_mTake n cb H t.p hC hn s) rfl rfl) ?_ ?_
 ·
  rintro _ _ ⟨_, Q2, ⟨rfl, hC2⟩, rfl, rfl⟩; infer_instance
 rintro _ _ ⟨_, Q2, ⟨rfl, hC2⟩, rfl, rfl⟩
 refine AnyH.app ?_
 rw [htf]
 refine Tk 6 rfl rfl (pv_move rfl) rfl ?_
 refine Tk 7 rfl rfl (pv_extract rfl rfl) rfl ?_
 refine Tk 8 rfl rfl (pv_extract rfl rfl) rfl ?_
 refine AnyH.one 10 (by kernel_rfl) ?_
 refine Turn.ef rfl rfl (ef_storeK rfl rfl rfl rfl) ?_ ?_
 ·
  rintro _ _ ⟨rfl, rfl⟩; infer_instance
 rintro _ _ ⟨rfl, rfl⟩
 refine Tk 11 rfl rfl (pv_assign rfl) rfl ?_
 refine AnyH.done (by kernel_rfl) ?_
 refine Ends.seq ?_
 refine Wp.seq ?_
 refine Wp.seq ?_
 refine Wp.region ?_
 refine Ops.pv (pv_move rfl) rfl ?_
 refine Ops.pv (pv_not_dec rfl) rfl ?_
 refine Ops.nil ?_
 refine Ends.seq ?_
 refine Wp.cond_dect rfl (fun h5 => ?_) (fun h5 => ?_)
 ·
  refine Wp.ret ?_
  refine Ends.then_ret ?_
  have hsok := stepT_ok hok s
  have he := stepT_n (t := t) (s := s) (by assumption)
  rw [he] at hsok ⊢
  exact Ends.retE (L' := tkBlk tk cb (t.n - 1) v :: (T ++ Q2)) (res0 rfl) ⟨rfl, by omega, v, T, Q2, ⟨hC2, hsl, hsok, by simp only [List.length_append, List.length_singleton]; omega⟩, rfl⟩
 refine Wp.skip ?_
 refine Ends.seq ?_
 refine Wp.seq ?_
 refine AnyH.start ((b5, .cells (dget t.p.l s).1.cells.toArray 24) :: []) 11 rfl ?_
 refine Tk 0 rfl rfl (pv_move rfl) rfl ?_
 refine Tk 1 rfl rfl (pv_move rfl) rfl ?_
 refine Tk 2 rfl rfl (pv_nilCheck rfl) rfl ?_
 refine Tk 3 rfl rfl (pv_fieldAddr0 rfl rfl) rfl ?_
 refine Tk 5 rfl rfl (pv_loadK [_, _, _, _, _, _] rfl rfl rfl ⟨rfl, rfl, rfl, rfl, rfl, rfl, trivial⟩) rfl ?_
 refine AnyH.two 4 6 (by kernel_rfl) ?_ ?_
 ·
  refine Turn.ef rfl rfl (ef_pv (pv_load rfl rfl rfl) rfl) ?_ ?_
  ·
   rintro _ _ ⟨rfl, rfl⟩; infer_instance
  rintro _ _ ⟨rfl, rfl⟩
  refine AnyH.one 6 (by kernel_rfl) ?_
  refine Turn.ef rfl rfl (ef_buildSlice1 (k := 6) rfl rfl rfl rfl rfl) ?_ ?_
  ·
   rintro _ _ ⟨b6, rfl, rfl⟩; infer_instance
  rintro _ _ ⟨b6, rfl, rfl⟩
  refine AnyH.one 7 (by kernel_rfl) ?_
  refine Turn.ef rfl rfl (ef_append (H := T) (xs := (dget t.p.l s).1.cells) rfl hsl rfl ⟨rfl, rfl, rfl, rfl, rfl, rfl, trivial⟩ rfl rfl rfl (by omega) (by omega) rfl rfl) ?_ ?_
  ·
   rintro _ _ ⟨u3, K3, hu3, rfl, rfl⟩; infer_instance
  rintro _ _ ⟨u3, K3, hu3, rfl, rfl⟩
  refine AnyH.app ?_
  have ho1 := hu3.one
  have ho2 := hu3.cells1
  refine Tk 8 rfl rfl (pv_nilCheck rfl) rfl ?_
  refine Tk 9 rfl rfl (pv_fieldAddr0 rfl rfl) rfl ?_
  refine AnyH.one 10 (by kernel_rfl) ?_
  refine Turn.ef rfl rfl (ef_store1 rfl rfl (by first | rfl | assumption) (by first | rfl | assumption)) ?_ ?_
  ·
   rintro _ _ ⟨rfl, rfl⟩; infer_instance
  rintro _ _ ⟨rfl, rfl⟩
  refine AnyH.done (by kernel_rfl) ?_
  refine Ends.seq ?_
  refine Wp.seq ?_
  refine Wp.region ?_
  refine Ops.pv (pv_fieldAddr0 rfl rfl) rfl ?_
  refine Ops.pv (pv_load rfl rfl rfl) rfl ?_
  refine Ops.pv (pv_eql rfl rfl) rfl ?_
  refine Ops.nil ?_
  refine Ends.seq ?_
  refine Wp.cond_dect rfl (fun h6 => ?_) (fun h6 => ?_)
  ·
   obtain ⟨sb, tb, Ls, Lt, hS, hT, rfl⟩ := hC2
   rw [List.cons_append, List.append_assoc]
   refine AnyH.start (tkBlk tk cb (t.n - 1) u3 :: (b5, .cells (dget t.p.l s).1.cells.toArray 24) :: cBlk cb sb tb :: []) 10 rfl ?_
   refine Tk 0 rfl rfl (pv_move rfl) rfl ?_
   refine Tk 1 rfl rfl (pv_nilCheck rfl) rfl ?_
   refine Tk 2 rfl rfl (pv_fieldAddr0 rfl rfl) rfl ?_
   refine Tk 3 rfl rfl (pv_load rfl rfl rfl) rfl ?_
   refine Tk 4 rfl rfl (pv_nilCheck rfl) rfl ?_
   refine Tk 5 rfl rfl (pv_fieldAddr0 rfl rfl) rfl ?_
   refine Tk 6 rfl rfl (pv_loadK [_] rfl rfl rfl ⟨rfl, trivial⟩) rfl ?_
   refine Tk 7 rfl rfl (pv_fieldAddr0 rfl rfl) rfl ?_
   refine Tk 8 rfl rfl (pv_load rfl rfl rfl) rfl ?_
   refine AnyH.one 9 (by kernel_rfl) ?_
   refine Turn.ef rfl rfl (ef_call (tr_smClear _ sb Ls hS (dget t.p.l s).1.object) rfl rfl) ?_ ?_
   ·
    rintro _ _ ⟨_, R3, ⟨rfl, hS2⟩, rfl, rfl⟩; infer_instance
   rintro _ _ ⟨_, R3, ⟨rfl, hS2⟩, rfl, rfl⟩
   refine AnyH.app ?_
   skip
   refine AnyH.done (by kernel_rfl) ?_
   have hsok := stepT_ok hok s
   have he := stepT_c (t := t) (s := s) (Decidable.not_not.1 (by assumption)) (by assumption)
   rw [he] at hsok ⊢
   exact Ends.finE (L' := tkBlk tk cb (t.n - 1) u3 :: (K3 ++ (cBlk cb sb tb :: (R3 ++ Lt)))) (res0 rfl) ⟨rfl, by omega, u3, K3, (cBlk cb sb tb :: (R3 ++ Lt)), ⟨⟨_, _, _, _, hS2, hT, rfl⟩, by rw [cel_app, cel_one1]; simpa using hu3, hsok, by simp only [List.length_append, List.length_singleton]; omega⟩, rfl⟩
  refine Wp.skip ?_
  have hsok := stepT_ok hok s
  have he := stepT_f (t := t) (s := s) (Decidable.not_not.1 (by assumption)) (by assumption)
  rw [he] at hsok ⊢
  exact Ends.finE (L' := tkBlk tk cb (t.n - 1) u3 :: (K3 ++ Q2)) (res0 rfl) ⟨rfl, by omega, u3, K3, Q2, ⟨hC2, by rw [cel_app, cel_one1]; simpa using hu3, hsok, by simp only [List.length_append, List.length_singleton]; omega⟩, rfl⟩
 refine Turn.ef rfl rfl (ef_buildSlice1 (k := 6) rfl rfl rfl rfl rfl) ?_ ?_
 ·
  rintro _ _ ⟨b7, rfl, rfl⟩; infer_instance
 rintro _ _ ⟨b7, rfl, rfl⟩
 refine AnyH.one 4 (by kernel_rfl) ?_
 refine Turn.ef rfl rfl (ef_pv (pv_load rfl rfl rfl) rfl) ?_ ?_
 ·
  rintro _ _ ⟨rfl, rfl⟩; infer_instance
 rintro _ _ ⟨rfl, rfl⟩
 refine AnyH.one 7 (by kernel_rfl) ?_
 refine Turn.ef rfl rfl (ef_append (H := T) (xs := (dget t.p.l s).1.cells) rfl hsl rfl ⟨rfl, rfl, rfl, rfl, rfl, rfl, trivial⟩ rfl rfl rfl (by omega) (by omega) rfl rfl) ?_ ?_
 ·
  rintro _ _ ⟨u4, K4, hu4, rfl, rfl⟩; infer_instance
 rintro _ _ ⟨u4, K4, hu4, rfl, rfl⟩
 refine AnyH.app ?_
 have ho1 := hu4.one
 have ho2 := hu4.cells1
 refine Tk 8 rfl rfl (pv_nilCheck rfl) rfl ?_
 refine Tk 9 rfl rfl (pv_fieldAddr0 rfl rfl) rfl ?_
 refine AnyH.one 10 (by kernel_rfl) ?_
 refine Turn.ef rfl rfl (ef_store1 rfl rfl (by first | rfl | assumption) (by first | rfl | assumption)) ?_ ?_
 ·
  rintro _ _ ⟨rfl, rfl⟩; infer_instance
 rintro _ _ ⟨rfl, rfl⟩
 refine AnyH.done (by kernel_rfl) ?_
 refine Ends.seq ?_
 refine Wp.seq ?_
 refine Wp.region ?_
 refine Ops.pv (pv_fieldAddr0 rfl rfl) rfl ?_
 refine Ops.pv (pv_load rfl rfl rfl) rfl ?_
 refine Ops.pv (pv_eql rfl rfl) rfl ?_
 refine Ops.nil ?_
 refine Ends.seq ?_
 refine Wp.cond_dect rfl (fun h7 => ?_) (fun h7 => ?_)
 ·
  obtain ⟨sb, tb, Ls, Lt, hS, hT, rfl⟩ := hC2
  rw [List.cons_append, List.append_assoc]
  refine AnyH.start (tkBlk tk cb (t.n - 1) u4 :: (b5, .cells (dget t.p.l s).1.cells.toArray 24) :: cBlk cb sb tb :: []) 10 rfl ?_
  refine Tk 0 rfl rfl (pv_move rfl) rfl ?_
  refine Tk 1 rfl rfl (pv_nilCheck rfl) rfl ?_
  refine Tk 2 rfl rfl (pv_fieldAddr0 rfl rfl) rfl ?_
  refine Tk 3 rfl rfl (pv_load rfl rfl rfl) rfl ?_
  refine Tk 4 rfl rfl (pv_nilCheck rfl) rfl ?_
  refine Tk 5 rfl rfl (pv_fieldAddr0 rfl rfl) rfl ?_
  refine Tk 6 rfl rfl (pv_loadK [_] rfl rfl rfl ⟨rfl, trivial⟩) rfl ?_
  refine Tk 7 rfl rfl (pv_fieldAddr0 rfl rfl) rfl ?_
  refine Tk 8 rfl rfl (pv_load rfl rfl rfl) rfl ?_
  refine AnyH.one 9 (by kernel_rfl) ?_
  refine Turn.ef rfl rfl (ef_call (tr_smClear _ sb Ls hS (dget t.p.l s).1.object) rfl rfl) ?_ ?_
  ·
   rintro _ _ ⟨_, R4, ⟨rfl, hS2⟩, rfl, rfl⟩; infer_instance
  rintro _ _ ⟨_, R4, ⟨rfl, hS2⟩, rfl, rfl⟩
  refine AnyH.app ?_
  skip
  refine AnyH.done (by kernel_rfl) ?_
  have hsok := stepT_ok hok s
  have he := stepT_c (t := t) (s := s) (Decidable.not_not.1 (by assumption)) (by assumption)
  rw [he] at hsok ⊢
  exact Ends.finE (L' := tkBlk tk cb (t.n - 1) u4 :: (K4 ++ (cBlk cb sb tb :: (R4 ++ Lt)))) (res0 rfl) ⟨rfl, by omega, u4, K4, (cBlk cb sb tb :: (R4 ++ Lt)), ⟨⟨_, _, _, _, hS2, hT, rfl⟩, by rw [cel_app, cel_one1]; simpa using hu4, hsok, by simp only [List.length_append, List.length_singleton]; omega⟩, rfl⟩
 refine Wp.skip ?_
 have hsok := stepT_ok hok s
 have he := stepT_f (t := t) (s := s) (Decidable.not_not.1 (by assumption)) (by assumption)
 rw [he] at hsok ⊢
 exact Ends.finE (L' := tkBlk tk cb (t.n - 1) u4 :: (K4 ++ Q2)) (res0 rfl) ⟨rfl, by omega, u4, K4, Q2, ⟨hC2, by rw [cel_app, cel_one1]; simpa using hu4, hsok, by simp only [List.length_append, List.length_singleton]; omega⟩, rfl⟩
def AwayP (n cb tk : Nat) (t : TS) (way : List SlotM) (s : SlotM) (G : Hp) (b : Bool) : Hp → Prop := fun L' => ∃ t' v' T' H', Away t way s b t' ∧ TkI n t' cb v' T' H' ∧ L' = tkBlk tk cb t'.n v' :: (T' ++ (H' ++ G))
def AwayC (mu : Nat) : Prop := ∀ (G : Hp) (n cb tk : Nat) (t : TS) (v : Value) (T H : Hp) (hI : TkI n t cb v T H) (hn : n ≤ 2 ^ 19) (a : Option Addr) (c : Nat) (l : List SlotM) (hv : View G 2 (.slice a l.length c) l.length (slotsCells l)) (s : SlotM) (hl : l.length + freeW t.p.l (l ++ [s]) ≤ 2 ^ 39), freeW t.p.l (l ++ [s]) < mu →
  TrE Try.prog 66 [tkP tk, slotV s, .slice a l.length c] (tkBlk tk cb t.n v :: (T ++ (H ++ G))) (fun u L' => u = .tuple #[] ∧ AwayP n cb tk t (l ++ [s]) s G true L') (fun c L' => c = spentC ∧ AwayP n cb tk t (l ++ [s]) s G false L')
set_option maxHeartbeats 8000000 in
theorem aw_step (mu : Nat) (ih : AwayC mu) (G : Hp) (n cb tk : Nat) (t : TS) (v : Value) (T H : Hp) (hI : TkI n t cb v T H) (hn : n ≤ 2 ^ 19) (a : Option Addr) (c : Nat) (l : List SlotM) (hv : View G 2 (.slice a l.length c) l.length (slotsCells l)) (sl : SlotM) (hl : l.length + freeW t.p.l (l ++ [sl]) ≤ 2 ^ 39) (hmu : freeW t.p.l (l ++ [sl]) ≤ mu) : TrE Try.prog 66 [tkP tk, slotV sl, .slice a l.length c] (tkBlk tk cb t.n v :: (T ++ (H ++ G))) (fun u L' => u = .tuple #[] ∧ AwayP n cb tk t (l ++ [sl]) sl G true L') (fun c L' => c = spentC ∧ AwayP n cb tk t (l ++ [sl]) sl G false L') := by
 refine TrE.enter Try.func66 rfl Try.ntmps66 rfl (fun W F => ?_)
 refine Wp.app ?_
 refine Wp.seq ?_
 refine Wp.region ?_
 refine Ops.ef rfl (ef_boxK rfl rfl) ?_
 rintro _ _ ⟨b1, rfl, rfl⟩
 refine Ops.nil ?_
 refine Ends.seq ?_
 refine Wp.cutK (σ := Option Addr × Nat × Hp) [(0, _), (4, _)] (fun s => [(6, .slice s.1 (l ++ [sl]).length s.2.1)]) (fun s => (b1, .cells [.int .i64 sl.1, .int .i64 sl.2].toArray 38) :: tkBlk tk cb t.n v :: (T ++ (H ++ (s.2.2 ++ (G ++ F))))) (fun s => Slc 38 2 (.slice s.1 (l ++ [sl]).length s.2.1) (l ++ [sl]).length (slotsCells (l ++ [sl])) s.2.2) ⟨rfl, rfl, trivial⟩ (fun _ KK hC0 => ?_) ?_
 ·
  dsimp only [List.cons_append, List.nil_append] at hC0
  refine AnyH.start ((b1, .cells [.int .i64 sl.1, .int .i64 sl.2].toArray 38) :: []) 6 rfl ?_
  refine Tk 0 rfl rfl (pv_move rfl) rfl ?_
  refine Tk 2 rfl rfl (pv_loadK [_, _] rfl rfl rfl ⟨rfl, rfl, trivial⟩) rfl ?_
  refine AnyH.two 1 3 (by kernel_rfl) ?_ ?_
  ·
   refine Turn.ef rfl rfl (ef_call (tr_slClone G a c l hv (by omega)) rfl rfl) ?_ ?_
   ·
    rintro _ _ ⟨_, _, ⟨C1, hc1, rfl⟩, rfl, rfl⟩; infer_instance
   rintro _ _ ⟨_, _, ⟨C1, hc1, rfl⟩, rfl, rfl⟩
   refine AnyH.app ?_
   refine AnyH.one 3 (by kernel_rfl) ?_
   refine Turn.ef rfl rfl (ef_buildSlice1 (k := 2) rfl rfl rfl rfl rfl) ?_ ?_
   ·
    rintro _ _ ⟨b2, rfl, rfl⟩; infer_instance
   rintro _ _ ⟨b2, rfl, rfl⟩
   refine AnyH.one 4 (by kernel_rfl) ?_
   refine Turn.ef rfl rfl (ef_append (H := C1) (xs := slotCells sl) rfl hc1 rfl ⟨rfl, rfl, trivial⟩ rfl rfl rfl (by omega) (by omega) rfl rfl) ?_ ?_
   ·
    rintro _ _ ⟨u1, K1, hu1, rfl, rfl⟩; infer_instance
   rintro _ _ ⟨u1, K1, hu1, rfl, rfl⟩
   refine AnyH.app ?_
   have hW : Slc 38 2 u1 (l ++ [sl]).length (slotsCells (l ++ [sl])) K1 := by rw [slotsCells_app, List.length_append]; simpa [slotsCells] using hu1
   obtain ⟨pw, qw, rfl⟩ := hW.form
   refine Tk 5 rfl rfl (pv_assign rfl) rfl ?_
   refine AnyH.done (by kernel_rfl) ?_
   refine Ends.goes ?_
   refine Goes.back (hC0 (pw, qw, K1) hW) ⟨rfl, rfl, rfl, trivial⟩
  refine Turn.ef rfl rfl (ef_buildSlice1 (k := 2) rfl rfl rfl rfl rfl) ?_ ?_
  ·
   rintro _ _ ⟨b3, rfl, rfl⟩; infer_instance
  rintro _ _ ⟨b3, rfl, rfl⟩
  refine AnyH.one 1 (by kernel_rfl) ?_
  refine Turn.ef rfl rfl (ef_call (tr_slClone G a c l hv (by omega)) rfl rfl) ?_ ?_
  ·
   rintro _ _ ⟨_, _, ⟨C2, hc2, rfl⟩, rfl, rfl⟩; infer_instance
  rintro _ _ ⟨_, _, ⟨C2, hc2, rfl⟩, rfl, rfl⟩
  refine AnyH.app ?_
  refine AnyH.one 4 (by kernel_rfl) ?_
  refine Turn.ef rfl rfl (ef_append (H := C2) (xs := slotCells sl) rfl hc2 rfl ⟨rfl, rfl, trivial⟩ rfl rfl rfl (by omega) (by omega) rfl rfl) ?_ ?_
  ·
   rintro _ _ ⟨u2, K2, hu2, rfl, rfl⟩; infer_instance
  rintro _ _ ⟨u2, K2, hu2, rfl, rfl⟩
  refine AnyH.app ?_
  have hW : Slc 38 2 u2 (l ++ [sl]).length (slotsCells (l ++ [sl])) K2 := by rw [slotsCells_app, List.length_append]; simpa [slotsCells] using hu2
  obtain ⟨pw, qw, rfl⟩ := hW.form
  refine Tk 5 rfl rfl (pv_assign rfl) rfl ?_
  refine AnyH.done (by kernel_rfl) ?_
  refine Ends.goes ?_
  refine Goes.back (hC0 (pw, qw, K2) hW) ⟨rfl, rfl, rfl, trivial⟩
 rintro ⟨pw, qw, K1⟩ hW
 dsimp only [List.cons_append, List.nil_append] at ⊢
 dsimp only at hW ⊢
 have hvw := hW.view
 refine Wp.seq ?_
 refine Wp.block ?_
 refine Wp.loopK (σ := TS × Value × Hp × Hp) [(0, _), (4, _), (6, _)] (fun s => []) (fun s => (b1, .cells [.int .i64 sl.1, .int .i64 sl.2].toArray 38) :: tkBlk tk cb s.1.n s.2.1 :: (s.2.2.1 ++ (s.2.2.2 ++ (K1 ++ (G ++ F))))) (fun s => TkI n s.1 cb s.2.1 s.2.2.1 s.2.2.2 ∧ (∀ b t', Away s.1 (l ++ [sl]) sl b t' → Away t (l ++ [sl]) sl b t') ∧ freeW s.1.p.l (l ++ [sl]) ≤ freeW t.p.l (l ++ [sl])) (fun s => s.1.n) (t, v, T, H) ⟨hI, fun _ _ h => h, Nat.le_refl _⟩ ⟨rfl, rfl, rfl, trivial⟩ trivial (by intro w ho; (try dsimp only [List.nil_append, List.cons_append]); exact Drop.own ho) ?_
 rintro ⟨ti, vi, Ti, Hi⟩ KK ⟨hIi, hacc, hfr⟩ hK
 dsimp only [List.cons_append, List.nil_append] at hK ⊢
 dsimp only at hIi hacc hfr ⊢
 refine Wp.seq ?_
 refine Wp.seq ?_
 refine AnyH.start ((b1, .cells [.int .i64 sl.1, .int .i64 sl.2].toArray 38) :: tkBlk tk cb ti.n vi :: []) 13 rfl ?_
 refine Tk 0 rfl rfl (pv_move rfl) rfl ?_
 refine Tk 1 rfl rfl (pv_loadK [_, _] rfl rfl rfl ⟨rfl, rfl, trivial⟩) rfl ?_
 refine AnyH.one 2 (by kernel_rfl) ?_
 refine Turn.ef rfl rfl (ef_callr (tr_tkGet n cb tk ti.n vi Hi ti.p hIi.1 sl) rfl rfl) ?_ ?_
 ·
  rintro _ _ ⟨rfl, rfl⟩; infer_instance
 rintro _ _ ⟨rfl, rfl⟩
 refine Tk 3 rfl rfl (pv_field rfl rfl rfl) rfl ?_
 refine Tk 4 rfl rfl (pv_eql rfl rfl) rfl ?_
 refine Tk 5 rfl rfl (pv_move rfl) rfl ?_
 refine AnyH.split (t := 19) rfl (fun h1 => ?_) (fun h1 => ?_)
 ·
  refine Tk 6 rfl ⟨_, _, rfl, rfl, rfl⟩ (pv_move rfl) rfl ?_
  refine Tk 7 rfl ⟨_, _, rfl, rfl, rfl⟩ (pv_nilCheck rfl) rfl ?_
  refine Tk 8 rfl ⟨_, _, rfl, rfl, rfl⟩ (pv_fieldAddr0 rfl rfl) rfl ?_
  refine Tk 9 rfl ⟨_, _, rfl, rfl, rfl⟩ (pv_load rfl rfl rfl) rfl ?_
  refine Tk 10 rfl ⟨_, _, rfl, rfl, rfl⟩ (pv_loadK [_, _] rfl rfl rfl ⟨rfl, rfl, trivial⟩) rfl ?_
  refine AnyH.one 11 (by kernel_rfl) ?_
  refine Turn.ef rfl ⟨_, _, rfl, rfl, rfl⟩ (ef_callr (tr_rFinal n cb Hi ti.p hIi.1 sl) rfl rfl) ?_ ?_
  ·
   rintro _ _ ⟨rfl, rfl⟩; infer_instance
  rintro _ _ ⟨rfl, rfl⟩
  refine Tk 12 rfl rfl (pv_pick_true rfl rfl) rfl ?_
  refine AnyH.done (by kernel_rfl) ?_
  refine Ends.seq ?_
  refine Wp.cond_dect rfl (fun h2 => ?_) (fun h2 => ?_)
  ·
   have hkf : (dget ti.p.l sl).1.kind = 2 ∧ fin ti.p.l sl := by first | assumption | exact ⟨by assumption, by assumption⟩
   have hie : innerM ti.p.l (l ++ [sl]) sl = firstIn ti.p.l (l ++ [sl]) (dget ti.p.l sl).1.object := by unfold innerM; rw [if_pos hkf]
   refine Wp.skip ?_
   refine Ends.seq ?_
   refine Wp.block ?_
   refine Wp.seq ?_
   refine Wp.region ?_
   refine Ops.pv (pv_move rfl) rfl ?_
   refine Ops.pv (pv_move rfl) rfl ?_
   refine Ops.pv (pv_loadK [_, _] rfl rfl rfl ⟨rfl, rfl, trivial⟩) rfl ?_
   refine Ops.ef rfl (ef_callr (tr_tkGet n cb tk ti.n vi Hi ti.p hIi.1 sl) rfl rfl) ?_
   rintro _ _ ⟨rfl, rfl⟩
   refine Ops.pv (pv_field rfl rfl rfl) rfl ?_
   refine Ops.pv (pv_move rfl) rfl ?_
   refine Ops.ef rfl (ef_callr (tr_tkInner K1 n cb tk ti.n vi Hi ti.p hIi.1 hIi.2.2.1 (dget ti.p.l sl).1.object pw qw (l ++ [sl]) hvw (by rw [List.length_append, List.length_singleton]; omega)) rfl rfl) ?_
   rintro _ _ ⟨rfl, rfl⟩
   refine Ops.pv (pv_move rfl) rfl ?_
   refine Ops.pv (pv_extract rfl rfl) rfl ?_
   refine Ops.pv (pv_extract rfl rfl) rfl ?_
   refine Ops.ef rfl (ef_allocK tyZ38 rfl) ?_
   rintro _ _ ⟨b4, rfl, rfl⟩
   refine Ops.ef rfl (ef_storeK rfl rfl rfl rfl) ?_
   rintro _ _ ⟨rfl, rfl⟩
   refine Ops.pv (pv_assign rfl) rfl ?_
   refine Ops.nil ?_
   refine Ends.seq ?_
   refine Wp.seq ?_
   refine Wp.seq ?_
   refine Wp.region ?_
   refine Ops.pv (pv_move rfl) rfl ?_
   refine Ops.pv (pv_not rfl) rfl ?_
   refine Ops.nil ?_
   refine Ends.seq ?_
   refine Wp.cond_t rfl (fun h3 => ?_) (fun h3 => ?_)
   ·
    have hin : innerM ti.p.l (l ++ [sl]) sl = none := by rw [hie]; (rcases hq : firstIn ti.p.l (l ++ [sl]) (dget ti.p.l sl).1.object with _ | x <;> simp_all)
    refine Wp.exit ?_
    refine Ends.then_exit ?_
    refine Ends.block_miss rfl ?_
    refine Ends.then_exit ?_
    refine Ends.block_hit ?_
    refine Ends.seq ?_
    refine Wp.region ?_
    refine Ops.pv (pv_move rfl) rfl ?_
    refine Ops.pv (pv_loadK [_, _] rfl rfl rfl ⟨rfl, rfl, trivial⟩) rfl ?_
    refine Ops.efx rfl (efx_call (tr_tkStep n cb tk ti vi Ti Hi hIi hn sl) rfl rfl) ?_ ?_
    ·
     rintro _ _ ⟨_, ⟨rfl, hz, rfl⟩, rfl⟩
     exact ⟨tkBlk tk cb ti.n vi :: (Ti ++ (Hi ++ G)), ⟨rfl, ti, vi, Ti, Hi, hacc _ _ (Away.spent hin hz), hIi, rfl⟩, by (try simp only [List.cons_append, List.append_assoc]); infer_instance⟩
    rintro _ _ ⟨_, _, ⟨rfl, hn0, v2, T2, H2, hI2, rfl⟩, rfl, rfl⟩
    refine Ops.app ?_
    refine Ops.nil ?_
    exact Ends.finE (L' := tkBlk tk cb (stepT ti sl).n v2 :: (T2 ++ (H2 ++ G))) (res0 rfl) ⟨rfl, _, _, _, _, hacc _ _ (Away.step hin hn0), hI2, rfl⟩
   rcases hx : firstIn ti.p.l (l ++ [sl]) (dget ti.p.l sl).1.object with _ | x
   ·
    simp_all
   have hin := hie.trans hx
   have hlt := freeW_lt hIi.2.2.1.rel (innerM_some hin).2.1 (innerM_some hin).2.2.1
   try rw [hx]
   refine Wp.skip ?_
   refine Ends.seq ?_
   refine Wp.region ?_
   refine Ops.pv (pv_move rfl) rfl ?_
   refine Ops.pv (pv_loadK [_, _] rfl rfl rfl ⟨rfl, rfl, trivial⟩) rfl ?_
   refine Ops.pv (pv_move rfl) rfl ?_
   refine Ops.efx rfl (efx_call (ih K1 n cb tk ti vi Ti Hi hIi hn pw qw (l ++ [sl]) hvw x (by rw [List.length_append, List.length_singleton]; omega) (by omega)) rfl rfl) ?_ ?_
   ·
    rintro _ _ ⟨_, ⟨rfl, t2, v2, T2, H2, hA, hI2, rfl⟩, rfl⟩
    exact ⟨tkBlk tk cb t2.n v2 :: (T2 ++ (H2 ++ G)), ⟨rfl, t2, v2, T2, H2, hacc _ _ (Away.fall hin hA), hI2, rfl⟩, by (try simp only [List.cons_append, List.append_assoc]); infer_instance⟩
   rintro _ _ ⟨_, _, ⟨rfl, t2, v2, T2, H2, hA, hI2, rfl⟩, rfl, rfl⟩
   refine Ops.app ?_
   refine Ops.nil ?_
   refine Ends.block_normal ?_
   refine Ends.goes ?_
   refine Goes.back (hK (t2, v2, T2, H2) ⟨hI2, fun b t' h => hacc _ _ (Away.next hin hA h), Nat.le_trans (hA.free hIi.2.2.1 _) hfr⟩ (hA.le.2 rfl)) ⟨rfl, rfl, rfl, trivial⟩
  have hin : innerM ti.p.l (l ++ [sl]) sl = none := by unfold innerM; rw [if_neg (fun hh => by first | exact absurd hh (by assumption) | exact absurd hh.1 (by assumption) | exact absurd hh.2 (by assumption))]
  refine Wp.exit ?_
  refine Ends.then_exit ?_
  refine Ends.then_exit ?_
  refine Ends.block_hit ?_
  refine Ends.seq ?_
  refine Wp.region ?_
  refine Ops.pv (pv_move rfl) rfl ?_
  refine Ops.pv (pv_loadK [_, _] rfl rfl rfl ⟨rfl, rfl, trivial⟩) rfl ?_
  refine Ops.efx rfl (efx_call (tr_tkStep n cb tk ti vi Ti Hi hIi hn sl) rfl rfl) ?_ ?_
  ·
   rintro _ _ ⟨_, ⟨rfl, hz, rfl⟩, rfl⟩
   exact ⟨tkBlk tk cb ti.n vi :: (Ti ++ (Hi ++ G)), ⟨rfl, ti, vi, Ti, Hi, hacc _ _ (Away.spent hin hz), hIi, rfl⟩, by (try simp only [List.cons_append, List.append_assoc]); infer_instance⟩
  rintro _ _ ⟨_, _, ⟨rfl, hn0, v2, T2, H2, hI2, rfl⟩, rfl, rfl⟩
  refine Ops.app ?_
  refine Ops.nil ?_
  exact Ends.finE (L' := tkBlk tk cb (stepT ti sl).n v2 :: (T2 ++ (H2 ++ G))) (res0 rfl) ⟨rfl, _, _, _, _, hacc _ _ (Away.step hin hn0), hI2, rfl⟩
 have hin : innerM ti.p.l (l ++ [sl]) sl = none := by unfold innerM; rw [if_neg (fun hh => by first | exact absurd hh (by assumption) | exact absurd hh.1 (by assumption) | exact absurd hh.2 (by assumption))]
 refine Ts 6 rfl ⟨_, _, rfl, rfl, rfl⟩ rfl ?_
 refine Ts 7 rfl ⟨_, _, rfl, rfl, rfl⟩ rfl ?_
 refine Ts 8 rfl ⟨_, _, rfl, rfl, rfl⟩ rfl ?_
 refine Ts 9 rfl ⟨_, _, rfl, rfl, rfl⟩ rfl ?_
 refine Ts 10 rfl ⟨_, _, rfl, rfl, rfl⟩ rfl ?_
 refine Ts 11 rfl ⟨_, _, rfl, rfl, rfl⟩ rfl ?_
 refine Tk 12 rfl rfl (pv_pick_false rfl rfl) rfl ?_
 refine AnyH.done (by kernel_rfl) ?_
 refine Ends.seq ?_
 refine Wp.cond_false rfl ?_
 refine Wp.exit ?_
 refine Ends.then_exit ?_
 refine Ends.then_exit ?_
 refine Ends.block_hit ?_
 refine Ends.seq ?_
 refine Wp.region ?_
 refine Ops.pv (pv_move rfl) rfl ?_
 refine Ops.pv (pv_loadK [_, _] rfl rfl rfl ⟨rfl, rfl, trivial⟩) rfl ?_
 refine Ops.efx rfl (efx_call (tr_tkStep n cb tk ti vi Ti Hi hIi hn sl) rfl rfl) ?_ ?_
 ·
  rintro _ _ ⟨_, ⟨rfl, hz, rfl⟩, rfl⟩
  exact ⟨tkBlk tk cb ti.n vi :: (Ti ++ (Hi ++ G)), ⟨rfl, ti, vi, Ti, Hi, hacc _ _ (Away.spent hin hz), hIi, rfl⟩, by (try simp only [List.cons_append, List.append_assoc]); infer_instance⟩
 rintro _ _ ⟨_, _, ⟨rfl, hn0, v2, T2, H2, hI2, rfl⟩, rfl, rfl⟩
 refine Ops.app ?_
 refine Ops.nil ?_
 exact Ends.finE (L' := tkBlk tk cb (stepT ti sl).n v2 :: (T2 ++ (H2 ++ G))) (res0 rfl) ⟨rfl, _, _, _, _, hacc _ _ (Away.step hin hn0), hI2, rfl⟩
theorem tr_tkAway : ∀ mu, AwayC mu
  | 0 => fun G n cb tk t v T H hI hn a c l hv s hl hm => absurd hm (Nat.not_lt_zero _)
  | mu + 1 => fun G n cb tk t v T H hI hn a c l hv s hl hm => aw_step mu (tr_tkAway mu) G n cb tk t v T H hI hn a c l hv s hl (by omega)
end Go.Proofs.Ytdodfnjmkpgdbaa
end
section
set_option linter.unusedVariables false
set_option linter.unusedSimpArgs false
set_option linter.unusedSectionVars false
namespace Go.Proofs.Ytdodfnjmkpgdbaa
open Go.SL
abbrev spV : Value := .iface 122 (.agg #[])
abbrev blk2 (b c : Nat) (x y : Value) : Hp := [(b, .cells [x].toArray 4), (c, .cells [y].toArray 28)]
theorem catch_rest {W : World} {L : Hp} {b c : Nat} {x y : Value} {c0 : Frame} {cs : List Frame} {u : FrameMode} (R : Ending → FrameMode → World → Prop) (hR : ∀ w, Own W w (blk2 b c (.bool false) (.int .i64 11) ++ L) → R (.returned (.tuple #[])) u w) (c1 c2 : Code) (hb : Try.f84.body = some (c1.seq c2)) :
    Wp Try.prog W (fun e a w => bodyPostS Try.prog Try.f84 c0 cs R e a ({ c0 with mode := u } :: cs) w) 11 [] c2 ((5, spV) :: argsEnv 0 [.pointer (some ⟨b, 0, none⟩), .pointer (some ⟨c, 0, none⟩)]) (blk2 b c x y ++ L) := by
  cases hb
  refine Wp.block ?_
  refine Wp.seq ?_
  refine Wp.region ?_
  refine Ops.pv (pv_eql_iface rfl rfl) rfl ?_
  refine Ops.nil ?_
  refine Ends.seq ?_
  refine Wp.cond_false rfl ?_
  refine Wp.seq ?_
  refine Wp.region ?_
  refine Ops.pv (pv_tassert rfl rfl) rfl ?_
  refine Ops.pv (pv_extract rfl rfl) rfl ?_
  refine Ops.pv (pv_extract rfl rfl) rfl ?_
  refine Ops.nil ?_
  refine Ends.seq ?_
  refine Wp.cond_true rfl ?_
  refine Wp.seq ?_
  refine Wp.region ?_
  refine Ops.ef rfl (ef_allocK tyZ122 rfl) ?_
  rintro _ _ ⟨b1, rfl, rfl⟩
  refine Ops.ef rfl (ef_storeK rfl rfl rfl rfl) ?_
  rintro _ _ ⟨rfl, rfl⟩
  refine Ops.nil ?_
  refine Ends.seq ?_
  refine Wp.region ?_
  refine Ops.ef rfl (ef_store1 rfl rfl rfl rfl) ?_
  rintro _ _ ⟨rfl, rfl⟩
  refine Ops.ef rfl (ef_store1 rfl rfl rfl rfl) ?_
  rintro _ _ ⟨rfl, rfl⟩
  refine Ops.nil ?_
  refine Ends.block_normal ?_
  exact Ends.finS rfl fun w ho => hR w (Drop.own ho)
theorem catch_idle {W : World} {L : Hp} {c0 : Frame} {cs : List Frame} {u : FrameMode} {p q : Value} (R : Ending → FrameMode → World → Prop) (hR : ∀ w, Own W w L → R (.returned (.tuple #[])) u w) (c1 c2 : Code) (hb : Try.f84.body = some (c1.seq c2)) :
    Wp Try.prog W (fun e a w => bodyPostS Try.prog Try.f84 c0 cs R e a ({ c0 with mode := u } :: cs) w) 11 [] c2 ((5, .nilIface) :: argsEnv 0 [p, q]) L := by
  cases hb
  refine Wp.block ?_
  refine Wp.seq ?_
  refine Wp.region ?_
  refine Ops.pv (pv_eql_nilif rfl rfl) rfl ?_
  refine Ops.nil ?_
  refine Ends.seq ?_
  refine Wp.cond_true rfl ?_
  refine Wp.region ?_
  refine Ops.pv (pv_assign rfl) rfl ?_
  refine Ops.nil ?_
  refine Ends.block_normal ?_
  exact Ends.finS rfl fun w ho => hR w ho
theorem wp_of {P : Program} {W : World} {Q : Exit → Act → World → Prop} {n : Nat} {D : List Deferred} {c : Code} {E : Env} {L : Hp} {a : Act} {w : World} (h : Wp P W Q n D c E L) (hs : Sees n D E a) (ho : Own W w L) : c.wp P Q a w := by
 unfold Wp at h; exact h a w hs ho
theorem catch_p {W w : World} {L : Hp} {b c : Nat} {x y : Value} (ho : Own W w (blk2 b c x y ++ L)) : CallsD Try.prog 84 [Value.pointer (some ⟨b, 0, none⟩), .pointer (some ⟨c, 0, none⟩)].toArray (.panicking spentC) w (fun e u' w' => e = .returned (.tuple #[]) ∧ settle u' = .returning ∧ Own W w' (blk2 b c (.bool false) (.int .i64 11) ++ L)) := by
 refine callsD_of_wpS Try.func84 rfl fun c0 cs hu => ?_
 refine wpS_recover hu (wpS_of_wp ?_)
 exact wp_of (catch_rest _ (fun w hw => ⟨rfl, rfl, hw⟩) _ _ rfl) ((sees_start rfl).put rfl) ho
theorem catch_i {W w : World} {L : Hp} {p q : Value} (ho : Own W w L) : CallsD Try.prog 84 [p, q].toArray .returning w (fun e u' w' => e = .returned (.tuple #[]) ∧ settle u' = .returning ∧ Own W w' L) := by
 refine callsD_of_wpS Try.func84 rfl fun c0 cs hu => ?_
 refine wpS_recover0 hu (wpS_of_wp ?_)
 cases c0
 cases hu
 exact wp_of (catch_idle (u := .returning) (p := p) (q := q) _ (fun w hw => ⟨rfl, rfl, hw⟩) _ _ rfl) ((sees_start rfl).put rfl) ho
theorem tr_run (f : Nat) (cap : List Value) (tk : Value) (L : Hp) (R X : Hp → Prop) [GoFn Try.prog f] (ht : TrE Try.prog f cap L (fun u L' => u = .tuple #[] ∧ R L') (fun c L' => c = spentC ∧ X L')) :
    Tr Try.prog 64 [tk, .func (.func f) #[] cap.toArray] L (fun u L' => (u = .tuple #[.bool true, .int .i64 0] ∧ R L') ∨ (u = .tuple #[.bool false, .int .i64 11] ∧ X L')) := by
  refine Tr.enterD Try.func64 rfl Try.ntmps64 rfl (fun W F => ?_)
  refine Wp.app ?_
  refine Wp.seq ?_
  refine Wp.region ?_
  refine Ops.ef rfl (ef_alloc1 tyZ4 rfl rfl) ?_
  rintro _ _ ⟨b1, rfl, rfl⟩
  refine Ops.ef rfl (ef_alloc1 tyZ28 rfl rfl) ?_
  rintro _ _ ⟨b2, rfl, rfl⟩
  refine Ops.nil ?_
  refine Ends.seq ?_
  refine Wp.seq ?_
  refine Wp.region ?_
  refine Ops.pv (pv_makeFunc rfl rfl) rfl ?_
  refine Ops.defer rfl ?_
  refine Ops.nil ?_
  refine Ends.seq ?_
  refine Wp.seq ?_
  refine Wp.region ?_
  refine Ops.pv (pv_move rfl) rfl ?_
  refine Ops.efxq rfl (efx_callf (args := []) rfl rfl ht rfl) ?_ ?_
  · rintro _ a w _ hs ⟨L1, ⟨rfl, hX⟩, rfl⟩ ho
    exact leaves_one (L' := L1) hs (by simp) (catch_p (b := b1) (c := b2) (L := L1 ++ F) (x := .bool false) (y := .int .i64 0) (Drop.own ho : Own W w ((b1, .cells [.bool false].toArray 4) :: (b2, .cells [.int .i64 0].toArray 28) :: (L1 ++ F)))) (res_list (rs := [.cell 4 4, .cell 5 28]) rfl ⟨_, _, rfl, rv_cell rfl rfl rfl, ⟨_, _, rfl, rv_cell rfl rfl rfl, rfl⟩⟩ rfl) (.inr ⟨rfl, hX⟩)
  rintro _ _ ⟨_, L1, ⟨rfl, hR⟩, rfl, rfl⟩
  refine Ops.nil ?_
  refine Ends.seq ?_
  refine Wp.seq ?_
  refine Wp.region ?_
  refine Ops.ef rfl (ef_store1 rfl rfl rfl rfl) ?_
  rintro _ _ ⟨rfl, rfl⟩
  refine Ops.ef rfl (ef_store1 rfl rfl rfl rfl) ?_
  rintro _ _ ⟨rfl, rfl⟩
  refine Ops.nil ?_
  refine Ends.seq ?_
  refine Wp.ret ?_
  refine Ends.retD fun a w hs ho => ?_
  exact leaves_one (L' := L1) hs (by simp) (catch_i ho) (res_list (rs := [.cell 4 4, .cell 5 28]) rfl ⟨_, _, rfl, rv_cell rfl rfl rfl, ⟨_, _, rfl, rv_cell rfl rfl rfl, rfl⟩⟩ rfl) (.inl ⟨rfl, hR⟩)
end Go.Proofs.Ytdodfnjmkpgdbaa
end
section
set_option linter.unusedVariables false
set_option linter.unusedSimpArgs false
set_option linter.unusedSectionVars false
namespace Go.Proofs.Ytdodfnjmkpgdbaa
open Go.SL
theorem dfull_1024 {l : List DN} (h : HasS l) : (dfull l).length ≤ 1024 := by
 obtain ⟨S, hR⟩ := h
 rw [← rel_full hR]; exact full_len S
theorem rvErr_range {l : List DN} {s : SlotM} {k : Int} (h : rvErr l s k = 0) : 1 ≤ k ∧ k ≤ 1000 := by
 unfold rvErr at h
 split at h
 ·
  cases h
 omega
theorem kin_le {n : Nat} {p : PS} {cb : Nat} {H : Hp} (h : CapsH n p cb H) (hn : n ≤ 2 ^ 19) (s : SlotM) : (ftKin p.F s).length ≤ 2 ^ 40 := by
 obtain ⟨_, _, _, _, _, hT, _⟩ := h
 exact hT.kin_len s (by omega)
inductive RevW : TS → SlotM → Bool → TS → Prop
  | empty {t : TS} {s : SlotM} : (dget t.p.l s).1.kind = 0 → RevW t s true t
  | alone {t : TS} {s : SlotM} : (dget t.p.l s).1.kind ≠ 0 → ftKin t.p.F s = [] → RevW t s true t
  | fall {t t' : TS} {s x : SlotM} : (dget t.p.l s).1.kind ≠ 0 → (ftKin t.p.F s)[(ftKin t.p.F s).length - 1]? = some x → Away t [x] x false t' → RevW t s false t'
  | next {t t1 t' : TS} {s x : SlotM} {b : Bool} : (dget t.p.l s).1.kind ≠ 0 → (ftKin t.p.F s)[(ftKin t.p.F s).length - 1]? = some x → Away t [x] x true t1 → RevW t1 s b t' → RevW t s b t'
theorem tr_away1 (n cb tk : Nat) (t : TS) (v : Value) (T H : Hp) (hI : TkI n t cb v T H) (hn : n ≤ 2 ^ 19) (s : SlotM) :
    TrE Try.prog 66 [tkP tk, slotV s, .slice none 0 0] (tkBlk tk cb t.n v :: (T ++ H)) (fun u L' => u = .tuple #[] ∧ ∃ t' v' T' H', Away t [s] s true t' ∧ TkI n t' cb v' T' H' ∧ L' = tkBlk tk cb t'.n v' :: (T' ++ H')) (fun c L' => c = spentC ∧ ∃ t' v' T' H', Away t [s] s false t' ∧ TkI n t' cb v' T' H' ∧ L' = tkBlk tk cb t'.n v' :: (T' ++ H')) := by
  have h1 := freeW_le t.p.l [s]
  have h2 := dfull_1024 hI.2.2.1.rel
  have := tr_tkAway (freeW t.p.l [s] + 1) [] n cb tk t v T H hI hn none 0 [] (Slc.nil 38 2).view s (by simp only [List.length_nil, List.nil_append]; omega) (Nat.lt_succ_self _)
  simp only [AwayP, List.append_nil, List.nil_append] at this
  exact this
theorem tr_run2 (f : Nat) (cap : List Value) (tk : Value) (L : Hp) (RX : Bool → Hp → Prop) [GoFn Try.prog f] (ht : TrE Try.prog f cap L (fun u L' => u = .tuple #[] ∧ RX true L') (fun c L' => c = spentC ∧ RX false L')) :
    Tr Try.prog 64 [tk, .func (.func f) #[] cap.toArray] L (fun u L' => ∃ b : Bool, u = .tuple #[.bool b, .int .i64 (if b = true then 0 else 11)] ∧ RX b L') :=
  (tr_run f cap tk L (RX true) (RX false) ht).mono fun u L' h => by
    rcases h with ⟨rfl, h⟩ | ⟨rfl, h⟩
    · exact ⟨true, rfl, h⟩
    · exact ⟨false, rfl, h⟩
def DelX (n cb tk bt ba : Nat) (t : TS) (sl : SlotM) : Bool → Hp → Prop := fun b L' => ∃ t' v' T' H', Away t [sl] sl b t' ∧ TkI n t' cb v' T' H' ∧ L' = (bt, .cells [.pointer (some ⟨tk, 0, none⟩)].toArray 96) :: (ba, .cells [.int .i64 sl.1, .int .i64 sl.2].toArray 38) :: tkBlk tk cb t'.n v' :: (T' ++ H')
def RevX (n cb tk bt ba bc : Nat) (t : TS) (sl : SlotM) : Bool → Hp → Prop := fun b L' => ∃ t' v' T' H', RevW t sl b t' ∧ TkI n t' cb v' T' H' ∧ L' = (bt, .cells [.pointer (some ⟨tk, 0, none⟩)].toArray 96) :: (ba, .cells [.int .i64 sl.1, .int .i64 sl.2].toArray 38) :: (bc, .cells [.pointer (some ⟨cb, 0, none⟩)].toArray 26) :: tkBlk tk cb t'.n v' :: (T' ++ H')
theorem tr_del1 (n cb tk bt ba : Nat) (t : TS) (v : Value) (T H : Hp) (hI : TkI n t cb v T H) (hn : n ≤ 2 ^ 19) (sl : SlotM) : TrE Try.prog 65 [.pointer (some ⟨bt, 0, none⟩), .pointer (some ⟨ba, 0, none⟩)] ((bt, .cells [.pointer (some ⟨tk, 0, none⟩)].toArray 96) :: (ba, .cells [.int .i64 sl.1, .int .i64 sl.2].toArray 38) :: tkBlk tk cb t.n v :: (T ++ H)) (fun u L' => u = .tuple #[] ∧ DelX n cb tk bt ba t sl true L') (fun c L' => c = spentC ∧ DelX n cb tk bt ba t sl false L') := by
 refine TrE.enter Try.func65 rfl Try.ntmps65 rfl (fun W F => ?_)
 refine Wp.app ?_
 refine Wp.region ?_
 refine Ops.pv (pv_load rfl rfl rfl) rfl ?_
 refine Ops.pv (pv_loadK [_, _] rfl rfl rfl ⟨rfl, rfl, trivial⟩) rfl ?_
 refine Ops.efx rfl (efx_call (tr_away1 n cb tk t v T H hI hn sl) rfl rfl) ?_ ?_
 ·
  rintro _ _ ⟨_, ⟨rfl, t2, v2, T2, H2, hA, hI2, rfl⟩, rfl⟩
  exact ⟨(bt, .cells [.pointer (some ⟨tk, 0, none⟩)].toArray 96) :: (ba, .cells [.int .i64 sl.1, .int .i64 sl.2].toArray 38) :: tkBlk tk cb t2.n v2 :: (T2 ++ H2), ⟨rfl, t2, v2, T2, H2, hA, hI2, rfl⟩, by (try simp only [List.cons_append, List.append_assoc]); infer_instance⟩
 rintro _ _ ⟨_, _, ⟨rfl, t2, v2, T2, H2, hA, hI2, rfl⟩, rfl, rfl⟩
 refine Ops.app ?_
 refine Ops.nil ?_
 exact Ends.finE (L' := (bt, .cells [.pointer (some ⟨tk, 0, none⟩)].toArray 96) :: (ba, .cells [.int .i64 sl.1, .int .i64 sl.2].toArray 38) :: tkBlk tk cb t2.n v2 :: (T2 ++ H2)) (res0 rfl) ⟨rfl, t2, v2, T2, H2, hA, hI2, rfl⟩
set_option maxHeartbeats 4000000 in
theorem tr_rev1 (n cb tk bt ba bc : Nat) (t : TS) (v : Value) (T H : Hp) (hI : TkI n t cb v T H) (hn : n ≤ 2 ^ 19) (sl : SlotM) : TrE Try.prog 67 [.pointer (some ⟨bt, 0, none⟩), .pointer (some ⟨ba, 0, none⟩), .pointer (some ⟨bc, 0, none⟩)] ((bt, .cells [.pointer (some ⟨tk, 0, none⟩)].toArray 96) :: (ba, .cells [.int .i64 sl.1, .int .i64 sl.2].toArray 38) :: (bc, .cells [.pointer (some ⟨cb, 0, none⟩)].toArray 26) :: tkBlk tk cb t.n v :: (T ++ H)) (fun u L' => u = .tuple #[] ∧ RevX n cb tk bt ba bc t sl true L') (fun c L' => c = spentC ∧ RevX n cb tk bt ba bc t sl false L') := by
 refine TrE.enter Try.func67 rfl Try.ntmps67 rfl (fun W F => ?_)
 refine Wp.app ?_
 refine Wp.block ?_
 refine Wp.loopK (σ := TS × Value × Hp × Hp) [(0, _), (1, _), (2, _)] (fun s => []) (fun s => (bt, .cells [.pointer (some ⟨tk, 0, none⟩)].toArray 96) :: (ba, .cells [.int .i64 sl.1, .int .i64 sl.2].toArray 38) :: (bc, .cells [.pointer (some ⟨cb, 0, none⟩)].toArray 26) :: tkBlk tk cb s.1.n s.2.1 :: (s.2.2.1 ++ (s.2.2.2 ++ F))) (fun s => TkI n s.1 cb s.2.1 s.2.2.1 s.2.2.2 ∧ (∀ b t', RevW s.1 sl b t' → RevW t sl b t')) (fun s => s.1.n) (t, v, T, H) ⟨hI, fun _ _ h => h⟩ ⟨rfl, rfl, rfl, trivial⟩ trivial (by intro w ho; (try dsimp only [List.nil_append, List.cons_append]); exact Drop.own ho) ?_
 rintro ⟨ti, vi, Ti, Hi⟩ KK ⟨hIi, hacc⟩ hK
 dsimp only [List.cons_append, List.nil_append] at hK ⊢
 dsimp only at hIi hacc ⊢
 refine Wp.seq ?_
 refine Wp.seq ?_
 refine Wp.region ?_
 refine Ops.pv (pv_load rfl rfl rfl) rfl ?_
 refine Ops.pv (pv_loadK [_, _] rfl rfl rfl ⟨rfl, rfl, trivial⟩) rfl ?_
 refine Ops.ef rfl (ef_callr (tr_tkGet n cb tk ti.n vi Hi ti.p hIi.1 sl) rfl rfl) ?_
 rintro _ _ ⟨rfl, rfl⟩
 refine Ops.pv (pv_field rfl rfl rfl) rfl ?_
 refine Ops.pv (pv_neq rfl rfl) rfl ?_
 refine Ops.nil ?_
 refine Ends.seq ?_
 refine Wp.cond_dect rfl (fun h1 => ?_) (fun h1 => ?_)
 ·
  have hk0 : (dget ti.p.l sl).1.kind ≠ 0 := by assumption
  refine Wp.skip ?_
  refine Ends.seq ?_
  refine Wp.block ?_
  refine Wp.seq ?_
  refine Wp.region ?_
  refine Ops.pv (pv_load rfl rfl rfl) rfl ?_
  refine Ops.pv (pv_loadK [_, _] rfl rfl rfl ⟨rfl, rfl, trivial⟩) rfl ?_
  refine Ops.ef rfl (ef_call (tr_mKin n cb Hi ti.p hIi.1 (by omega) sl) rfl rfl) ?_
  rintro _ _ ⟨_, _, ⟨C1, hc1, rfl⟩, rfl, rfl⟩
  refine Ops.app ?_
  obtain ⟨pp1, qq1, rfl⟩ := hc1.form
  refine Ops.pv (pv_assign rfl) rfl ?_
  refine Ops.nil ?_
  refine Ends.seq ?_
  refine Wp.seq ?_
  refine Wp.seq ?_
  refine Wp.region ?_
  refine Ops.pv (pv_move rfl) rfl ?_
  refine Ops.pv (pv_len_slice (T := 41) rfl rfl) rfl ?_
  refine Ops.pv (pv_eql rfl rfl) rfl ?_
  refine Ops.nil ?_
  refine Ends.seq ?_
  refine Wp.cond_dect rfl (fun h2 => ?_) (fun h2 => ?_)
  ·
   refine Wp.ret ?_
   refine Ends.then_ret ?_
   refine Ends.block_ret ?_
   refine Ends.then_ret ?_
   refine Ends.block_ret ?_
   exact Ends.retE (L' := (bt, .cells [.pointer (some ⟨tk, 0, none⟩)].toArray 96) :: (ba, .cells [.int .i64 sl.1, .int .i64 sl.2].toArray 38) :: (bc, .cells [.pointer (some ⟨cb, 0, none⟩)].toArray 26) :: tkBlk tk cb ti.n vi :: (Ti ++ Hi)) (res0 rfl) ⟨rfl, ti, vi, Ti, Hi, hacc _ _ (RevW.alone hk0 (List.eq_nil_of_length_eq_zero (by omega))), hIi, rfl⟩
  have hl0 : (ftKin ti.p.F sl).length ≠ 0 := by omega
  have hkl := kin_le hIi.1 hn sl
  obtain ⟨x, hx⟩ : ∃ x, (ftKin ti.p.F sl)[(ftKin ti.p.F sl).length - 1]? = some x := ⟨_, List.getElem?_eq_getElem (by omega)⟩
  obtain ⟨bf, of, cap, cc, T0, f0, hv1, hbv, hr⟩ := hc1.view.open (by omega)
  cases hv1
  have hre := hr.sub (i := ((ftKin ti.p.F sl).length - 1) * 2) (l := 2)
  rw [slots_reads hx] at hre
  refine Wp.skip ?_
  refine Ends.seq ?_
  refine AnyH.start ((bt, .cells [.pointer (some ⟨tk, 0, none⟩)].toArray 96) :: C1) 8 rfl ?_
  refine Tk 0 rfl rfl (pv_load rfl rfl rfl) rfl ?_
  refine Tk 1 rfl rfl (pv_move rfl) rfl ?_
  refine Tk 2 rfl rfl (pv_move rfl) rfl ?_
  refine Tk 3 rfl rfl (pv_len_slice (T := 41) rfl rfl) rfl ?_
  refine Tk 4 rfl rfl (pv_sub rfl rfl (w64n (k := (ftKin ti.p.F sl).length - 1) (by omega) (by omega))) rfl ?_
  refine Tk 5 rfl rfl (pv_indexAddr (i := (ftKin ti.p.F sl).length - 1) rfl rfl rfl (by omega)) rfl ?_
  refine Tk 6 rfl rfl (pv_loadK [.int .i64 x.1, .int .i64 x.2] rfl rfl rfl hre) rfl ?_
  refine AnyH.one 7 (by kernel_rfl) ?_
  refine Turn.efx rfl rfl (efx_call (tr_away1 n cb tk ti vi Ti Hi hIi hn x) rfl rfl) ?_ ?_ ?_
  ·
   rintro _ _ ⟨_, ⟨rfl, t2, v2, T2, H2, hA, hI2, rfl⟩, rfl⟩
   exact ⟨(bt, .cells [.pointer (some ⟨tk, 0, none⟩)].toArray 96) :: (ba, .cells [.int .i64 sl.1, .int .i64 sl.2].toArray 38) :: (bc, .cells [.pointer (some ⟨cb, 0, none⟩)].toArray 26) :: tkBlk tk cb t2.n v2 :: (T2 ++ H2), ⟨rfl, t2, v2, T2, H2, hacc _ _ (RevW.fall hk0 hx hA), hI2, rfl⟩, by (try simp only [List.cons_append, List.append_assoc]); infer_instance⟩
  ·
   rintro _ _ ⟨_, _, ⟨rfl, t2, v2, T2, H2, hA, hI2, rfl⟩, rfl, rfl⟩; infer_instance
  rintro _ _ ⟨_, _, ⟨rfl, t2, v2, T2, H2, hA, hI2, rfl⟩, rfl, rfl⟩
  refine AnyH.app ?_
  refine AnyH.done (by kernel_rfl) ?_
  refine Ends.block_normal ?_
  refine Ends.goes ?_
  refine Goes.back (hK (t2, v2, T2, H2) ⟨hI2, fun b t' h => hacc _ _ (RevW.next hk0 hx hA h)⟩ (hA.le.2 rfl)) ⟨rfl, rfl, rfl, trivial⟩
 refine Wp.exit ?_
 refine Ends.then_exit ?_
 refine Ends.then_exit ?_
 refine Ends.block_hit ?_
 exact Ends.finE (L' := (bt, .cells [.pointer (some ⟨tk, 0, none⟩)].toArray 96) :: (ba, .cells [.int .i64 sl.1, .int .i64 sl.2].toArray 38) :: (bc, .cells [.pointer (some ⟨cb, 0, none⟩)].toArray 26) :: tkBlk tk cb ti.n vi :: (Ti ++ Hi)) (res0 rfl) ⟨rfl, ti, vi, Ti, Hi, hacc _ _ (RevW.empty (Decidable.not_not.1 (by assumption))), hIi, rfl⟩
set_option maxHeartbeats 4000000 in
theorem tr_rDelete (n cb : Nat) (H : Hp) (p : PS) (hC : CapsH n p cb H) (hok : POk p) (hn : n ≤ 2 ^ 19) (sl : SlotM) (k : Int) : Tr Try.prog 33 [cpP cb, slotV sl, .int .i64 k] (H) (fun u L' => (rvErr p.l sl k ≠ 0 ∧ u = .tuple #[.slice none 0 0, .bool false, .int .i64 (rvErr p.l sl k)] ∧ L' = H) ∨ (rvErr p.l sl k = 0 ∧ ∃ b t' v' T' H', Away ⟨p, [], k.toNat⟩ [sl] sl b t' ∧ TkI n t' cb v' T' H' ∧ u = .tuple #[v', .bool b, .int .i64 (if b = true then 0 else 11)] ∧ L' = T' ++ H')) := by
 refine Tr.enter Try.func33 rfl Try.ntmps33 rfl (fun W F => ?_)
 refine Wp.app ?_
 refine Wp.seq ?_
 refine Wp.region ?_
 refine Ops.ef rfl (ef_boxK rfl rfl) ?_
 rintro _ _ ⟨b1, rfl, rfl⟩
 refine Ops.pv (pv_assign rfl) rfl ?_
 refine Ops.pv (pv_assign rfl) rfl ?_
 refine Ops.pv (pv_assign rfl) rfl ?_
 refine Ops.nil ?_
 refine Ends.seq ?_
 refine Wp.seq ?_
 refine Wp.seq ?_
 refine Wp.region ?_
 refine Ops.pv (pv_move rfl) rfl ?_
 refine Ops.pv (pv_loadK [_, _] rfl rfl rfl ⟨rfl, rfl, trivial⟩) rfl ?_
 refine Ops.pv (pv_move rfl) rfl ?_
 refine Ops.ef rfl (ef_callr (tr_rCheck n cb H p hC sl k) rfl rfl) ?_
 rintro _ _ ⟨rfl, rfl⟩
 refine Ops.pv (pv_assign rfl) rfl ?_
 refine Ops.nil ?_
 refine Ends.seq ?_
 refine Wp.seq ?_
 refine Wp.region ?_
 refine Ops.pv (pv_move rfl) rfl ?_
 refine Ops.pv (pv_neq rfl rfl) rfl ?_
 refine Ops.nil ?_
 refine Ends.seq ?_
 refine Wp.cond_dect rfl (fun h1 => ?_) (fun h1 => ?_)
 ·
  refine Wp.seq ?_
  refine Wp.region ?_
  refine Ops.pv (pv_move rfl) rfl ?_
  refine Ops.pv (pv_assign rfl) rfl ?_
  refine Ops.pv (pv_assign rfl) rfl ?_
  refine Ops.pv (pv_assign rfl) rfl ?_
  refine Ops.nil ?_
  refine Ends.seq ?_
  refine Wp.ret ?_
  refine Ends.then_ret ?_
  exact Ends.ret (L' := H) (res3 rfl rfl rfl rfl) (.inl ⟨by assumption, rfl, rfl⟩)
 have hr0 : rvErr p.l sl k = 0 := Decidable.not_not.1 (by assumption)
 have hk := rvErr_range hr0
 obtain ⟨kn, rfl⟩ : ∃ j : Nat, k = j := ⟨k.toNat, by omega⟩
 have hI0 : TkI n (⟨p, [], kn⟩ : TS) cb (.slice none 0 0) [] H := ⟨hC, Slc.nil _ _, hok, by simp only [List.length_nil]; omega⟩
 refine Wp.skip ?_
 refine Ends.seq ?_
 refine Wp.seq ?_
 refine Wp.region ?_
 refine Ops.pv (pv_move rfl) rfl ?_
 refine Ops.pv (pv_move rfl) rfl ?_
 refine Ops.pv (pv_build rfl) rfl ?_
 refine Ops.ef rfl (ef_boxK rfl rfl) ?_
 rintro _ _ ⟨b2, rfl, rfl⟩
 refine Ops.ef rfl (ef_alloc1 tyZ96 rfl rfl) ?_
 rintro _ _ ⟨b3, rfl, rfl⟩
 refine Ops.ef rfl (ef_store1 rfl rfl (by first | rfl | assumption) (by first | rfl | assumption)) ?_
 rintro _ _ ⟨rfl, rfl⟩
 refine Ops.nil ?_
 refine Ends.seq ?_
 refine Wp.seq ?_
 refine Wp.region ?_
 refine Ops.pv (pv_load rfl rfl rfl) rfl ?_
 refine Ops.pv (pv_makeFunc rfl rfl) rfl ?_
 refine Ops.ef rfl (ef_call (tr_run2 65 [.pointer (some ⟨b3, 0, none⟩), .pointer (some ⟨b1, 0, none⟩)] (tkP b2) _ (DelX n cb b2 b3 b1 ⟨p, [], kn⟩ sl) (tr_del1 n cb b2 b3 b1 ⟨p, [], kn⟩ (.slice none 0 0) [] H hI0 hn sl)) rfl rfl) ?_
 rintro _ _ ⟨_, _, ⟨b, rfl, t2, v2, T2, H2, hA, hI2, rfl⟩, rfl, rfl⟩
 refine Ops.app ?_
 refine Ops.pv (pv_move rfl) rfl ?_
 refine Ops.pv (pv_extract rfl rfl) rfl ?_
 refine Ops.pv (pv_extract rfl rfl) rfl ?_
 refine Ops.pv (pv_assign rfl) rfl ?_
 refine Ops.pv (pv_assign rfl) rfl ?_
 refine Ops.nil ?_
 refine Ends.seq ?_
 refine Wp.seq ?_
 refine Wp.region ?_
 refine Ops.pv (pv_load rfl rfl rfl) rfl ?_
 refine Ops.pv (pv_nilCheck rfl) rfl ?_
 refine Ops.pv (pv_fieldAddr0 rfl rfl) rfl ?_
 refine Ops.pv (pv_load rfl rfl rfl) rfl ?_
 refine Ops.pv (pv_move rfl) rfl ?_
 refine Ops.pv (pv_move rfl) rfl ?_
 refine Ops.pv (pv_assign rfl) rfl ?_
 refine Ops.pv (pv_assign rfl) rfl ?_
 refine Ops.pv (pv_assign rfl) rfl ?_
 refine Ops.nil ?_
 refine Ends.seq ?_
 refine Wp.ret ?_
 have ho1 := hI2.2.1.one
 have ho2 := hI2.2.1.cells1
 exact Ends.ret (L' := T2 ++ H2) (res3 rfl rfl rfl rfl) (.inr ⟨hr0, b, t2, v2, T2, H2, hA, hI2, rfl, rfl⟩)
set_option maxHeartbeats 4000000 in
theorem tr_rRevoke (n cb : Nat) (H : Hp) (p : PS) (hC : CapsH n p cb H) (hok : POk p) (hn : n ≤ 2 ^ 19) (sl : SlotM) (k : Int) : Tr Try.prog 37 [cpP cb, slotV sl, .int .i64 k] (H) (fun u L' => (rvErr p.l sl k ≠ 0 ∧ u = .tuple #[.slice none 0 0, .bool false, .int .i64 (rvErr p.l sl k)] ∧ L' = H) ∨ (rvErr p.l sl k = 0 ∧ ∃ b t' v' T' H', RevW ⟨p, [], k.toNat⟩ sl b t' ∧ TkI n t' cb v' T' H' ∧ u = .tuple #[v', .bool b, .int .i64 (if b = true then 0 else 11)] ∧ L' = T' ++ H')) := by
 refine Tr.enter Try.func37 rfl Try.ntmps37 rfl (fun W F => ?_)
 refine Wp.app ?_
 refine Wp.seq ?_
 refine Wp.region ?_
 refine Ops.ef rfl (ef_box1 rfl rfl rfl) ?_
 rintro _ _ ⟨b1, rfl, rfl⟩
 refine Ops.ef rfl (ef_boxK rfl rfl) ?_
 rintro _ _ ⟨b2, rfl, rfl⟩
 refine Ops.pv (pv_assign rfl) rfl ?_
 refine Ops.pv (pv_assign rfl) rfl ?_
 refine Ops.pv (pv_assign rfl) rfl ?_
 refine Ops.nil ?_
 refine Ends.seq ?_
 refine Wp.seq ?_
 refine Wp.seq ?_
 refine Wp.region ?_
 refine Ops.pv (pv_load rfl rfl rfl) rfl ?_
 refine Ops.pv (pv_loadK [_, _] rfl rfl rfl ⟨rfl, rfl, trivial⟩) rfl ?_
 refine Ops.pv (pv_move rfl) rfl ?_
 refine Ops.ef rfl (ef_callr (tr_rCheck n cb H p hC sl k) rfl rfl) ?_
 rintro _ _ ⟨rfl, rfl⟩
 refine Ops.pv (pv_assign rfl) rfl ?_
 refine Ops.nil ?_
 refine Ends.seq ?_
 refine Wp.seq ?_
 refine Wp.region ?_
 refine Ops.pv (pv_move rfl) rfl ?_
 refine Ops.pv (pv_neq rfl rfl) rfl ?_
 refine Ops.nil ?_
 refine Ends.seq ?_
 refine Wp.cond_dect rfl (fun h1 => ?_) (fun h1 => ?_)
 ·
  refine Wp.seq ?_
  refine Wp.region ?_
  refine Ops.pv (pv_move rfl) rfl ?_
  refine Ops.pv (pv_assign rfl) rfl ?_
  refine Ops.pv (pv_assign rfl) rfl ?_
  refine Ops.pv (pv_assign rfl) rfl ?_
  refine Ops.nil ?_
  refine Ends.seq ?_
  refine Wp.ret ?_
  refine Ends.then_ret ?_
  exact Ends.ret (L' := H) (res3 rfl rfl rfl rfl) (.inl ⟨by assumption, rfl, rfl⟩)
 have hr0 : rvErr p.l sl k = 0 := Decidable.not_not.1 (by assumption)
 have hk := rvErr_range hr0
 obtain ⟨kn, rfl⟩ : ∃ j : Nat, k = j := ⟨k.toNat, by omega⟩
 have hI0 : TkI n (⟨p, [], kn⟩ : TS) cb (.slice none 0 0) [] H := ⟨hC, Slc.nil _ _, hok, by simp only [List.length_nil]; omega⟩
 refine Wp.skip ?_
 refine Ends.seq ?_
 refine Wp.seq ?_
 refine Wp.region ?_
 refine Ops.pv (pv_load rfl rfl rfl) rfl ?_
 refine Ops.pv (pv_move rfl) rfl ?_
 refine Ops.pv (pv_build rfl) rfl ?_
 refine Ops.ef rfl (ef_boxK rfl rfl) ?_
 rintro _ _ ⟨b3, rfl, rfl⟩
 refine Ops.ef rfl (ef_alloc1 tyZ96 rfl rfl) ?_
 rintro _ _ ⟨b4, rfl, rfl⟩
 refine Ops.ef rfl (ef_store1 rfl rfl (by first | rfl | assumption) (by first | rfl | assumption)) ?_
 rintro _ _ ⟨rfl, rfl⟩
 refine Ops.nil ?_
 refine Ends.seq ?_
 refine Wp.seq ?_
 refine Wp.region ?_
 refine Ops.pv (pv_load rfl rfl rfl) rfl ?_
 refine Ops.pv (pv_makeFunc rfl rfl) rfl ?_
 refine Ops.ef rfl (ef_call (tr_run2 67 [.pointer (some ⟨b4, 0, none⟩), .pointer (some ⟨b2, 0, none⟩), .pointer (some ⟨b1, 0, none⟩)] (tkP b3) _ (RevX n cb b3 b4 b2 b1 ⟨p, [], kn⟩ sl) (tr_rev1 n cb b3 b4 b2 b1 ⟨p, [], kn⟩ (.slice none 0 0) [] H hI0 hn sl)) rfl rfl) ?_
 rintro _ _ ⟨_, _, ⟨b, rfl, t2, v2, T2, H2, hA, hI2, rfl⟩, rfl, rfl⟩
 refine Ops.app ?_
 refine Ops.pv (pv_move rfl) rfl ?_
 refine Ops.pv (pv_extract rfl rfl) rfl ?_
 refine Ops.pv (pv_extract rfl rfl) rfl ?_
 refine Ops.pv (pv_assign rfl) rfl ?_
 refine Ops.pv (pv_assign rfl) rfl ?_
 refine Ops.nil ?_
 refine Ends.seq ?_
 refine Wp.seq ?_
 refine Wp.region ?_
 refine Ops.pv (pv_load rfl rfl rfl) rfl ?_
 refine Ops.pv (pv_nilCheck rfl) rfl ?_
 refine Ops.pv (pv_fieldAddr0 rfl rfl) rfl ?_
 refine Ops.pv (pv_load rfl rfl rfl) rfl ?_
 refine Ops.pv (pv_move rfl) rfl ?_
 refine Ops.pv (pv_move rfl) rfl ?_
 refine Ops.pv (pv_assign rfl) rfl ?_
 refine Ops.pv (pv_assign rfl) rfl ?_
 refine Ops.pv (pv_assign rfl) rfl ?_
 refine Ops.nil ?_
 refine Ends.seq ?_
 refine Wp.ret ?_
 have ho1 := hI2.2.1.one
 have ho2 := hI2.2.1.cells1
 exact Ends.ret (L' := T2 ++ H2) (res3 rfl rfl rfl rfl) (.inr ⟨hr0, b, t2, v2, T2, H2, hA, hI2, rfl, rfl⟩)
end Go.Proofs.Ytdodfnjmkpgdbaa
end
section
set_option linter.unusedVariables false
set_option linter.unusedSimpArgs false
set_option linter.unusedSectionVars false
namespace Go.Proofs.Ytdodfnjmkpgdbaa
open Go.SL
theorem count_two {α : Type} {l : List α} (hn : l.Nodup) {q : α → Bool} {a b : α} (ha : a ∈ l) (hb : b ∈ l) (hab : a ≠ b) (qa : q a = true) (qb : q b = true) : 2 ≤ l.countP q := by
 induction l with
 | nil => cases ha
 | cons c l ih =>
  rw [List.nodup_cons] at hn
  rw [List.countP_cons]
  rcases List.mem_cons.1 ha with rfl | ha1
  ·
   have hb' : b ∈ l := (List.mem_cons.1 hb).resolve_left (fun e => hab e.symm)
   have : 0 < l.countP q := List.countP_pos_iff.2 ⟨b, hb', qb⟩
   rw [if_pos qa]; omega
  ·
   rcases List.mem_cons.1 hb with rfl | hb1
   ·
    have : 0 < l.countP q := List.countP_pos_iff.2 ⟨a, ha1, qa⟩
    rw [if_pos qb]; omega
   ·
    have := ih hn.2 ha1 hb1; omega
theorem not_fin {p : PS} (h : POk p) {s x : SlotM} (hs : (dget p.l s).1.kind ≠ 0) (hsx : x ≠ s) (hk : (dget p.l x).1.kind = (dget p.l s).1.kind) (ho : (dget p.l x).1.object = (dget p.l s).1.object) : ¬ fin p.l x := fun hf => by
 have h2 := hf.2
 unfold dcount at h2
 have := count_two (dfull_nodup h.rel) (q := fun z => decide ((dget p.l z).1.kind = (dget p.l x).1.kind) && decide ((dget p.l z).1.object = (dget p.l x).1.object)) ((mem_dfull h.rel).2 (hk ▸ hs)) ((mem_dfull h.rel).2 hs) hsx (by simp) (by simp [hk, ho])
 omega
theorem kin_nodup {p : PS} (h : POk p) (s : SlotM) : (ftKin p.F s).Nodup := Fo.nd_sub h.nd
theorem kin_not {p : PS} (h : POk p) (s : SlotM) : s ∉ ftKin p.F s := Fo.sub_self h.nd
theorem kin_nf {p : PS} (h : WOk p) {s x : SlotM} (hx : x ∈ ftKin p.F s) : ¬ fin p.l x := by
 have hw := h.weak s x hx
 have hs : (dget p.l s).1.kind ≠ 0 := (h.ok.on s).1 (kin_in hx).1
 exact not_fin h.ok hs (fun e => kin_not h.ok s (e ▸ hx)) hw.2.2.1 hw.2.2.2.1
theorem away_nf {t t' : TS} {way : List SlotM} {x : SlotM} {b : Bool} (h : Away t way x b t') (hf : ¬ fin t.p.l x) : if t.n = 0 then b = false ∧ t' = t else b = true ∧ t' = ⟨(mTake t.p x).2.2, t.told, t.n - 1⟩ := by
 have hin : innerM t.p.l way x = none := by unfold innerM; rw [if_neg (fun k => hf k.2)]
 cases h with
 | spent _ h0 => rw [if_pos h0]; exact ⟨rfl, rfl⟩
 | step _ h0 => rw [if_neg h0]; exact ⟨rfl, stepT_n hf⟩
 | fall h2 _ => rw [hin] at h2; cases h2
 | next h2 _ _ => rw [hin] at h2; cases h2
def revS (p : PS) (s : SlotM) : Nat → PS
  | 0 => p
  | m + 1 => match (ftKin p.F s)[(ftKin p.F s).length - 1]? with
    | none => p
    | some x => revS (mTake p x).2.2 s m
theorem last_split {α : Type} {l : List α} {x : α} (h : l[l.length - 1]? = some x) : l = l.take (l.length - 1) ++ [x] ∧ 0 < l.length := by
 have h0 : 0 < l.length := by
  rcases Nat.eq_zero_or_pos l.length with e | e
  ·
   rw [List.eq_nil_of_length_eq_zero e] at h; simp at h
  ·
   exact e
 refine ⟨?_, h0⟩
 have h1 := List.take_add_one (l := l) (i := l.length - 1)
 rw [h, show l.length - 1 + 1 = l.length by omega, List.take_length] at h1
 exact h1
theorem kin_last {p : PS} (h : POk p) {s x : SlotM} (hx : (ftKin p.F s)[(ftKin p.F s).length - 1]? = some x) : ftKin (mTake p x).2.2.F s = (ftKin p.F s).take ((ftKin p.F s).length - 1) := by
 have hm := List.mem_of_getElem? hx
 obtain ⟨hs, h0⟩ := last_split hx
 have hk : (dget p.l x).1.kind ≠ 0 := (h.on x).1 (kin_in hm).2
 rw [take_F h hk]
 show (Fo.sub s (p.F.drop x)).all = _
 rw [Fo.kin_drop h.nd (by rintro rfl; exact kin_not h _ hm)]
 show (ftKin p.F s).filter _ = _
 have hn := kin_nodup h s
 rw [hs] at hn
 have hd := List.nodup_append.1 hn
 have e1 : (ftKin p.F s).filter (fun z => decide (z ≠ x)) = ((ftKin p.F s).take ((ftKin p.F s).length - 1) ++ [x]).filter (fun z => decide (z ≠ x)) := by rw [← hs]
 rw [e1, List.filter_append]
 have e2 : [x].filter (fun z => decide (z ≠ x)) = [] := by simp
 have e3 : ((ftKin p.F s).take ((ftKin p.F s).length - 1)).filter (fun z => decide (z ≠ x)) = (ftKin p.F s).take ((ftKin p.F s).length - 1) :=
  List.filter_eq_self.2 fun z hz => decide_eq_true fun e => hd.2.2 z hz x (List.mem_singleton.2 rfl) e
 rw [e2, e3, List.append_nil]
theorem revS_ok {s : SlotM} : ∀ (m : Nat) {p : PS}, WOk p → WOk (revS p s m)
  | 0, _, h => h
  | m + 1, p, h => by
    unfold revS
    split
    · exact h
    · exact revS_ok m (h.take _)
theorem rev_eq {t t' : TS} {s : SlotM} {b : Bool} (h : RevW t s b t') (hw : WOk t.p) (hk : (dget t.p.l s).1.kind ≠ 0) :
    b = decide ((ftKin t.p.F s).length ≤ t.n) ∧ t' = ⟨revS t.p s (min t.n (ftKin t.p.F s).length), t.told, t.n - (ftKin t.p.F s).length⟩ := by
  induction h with
  | empty h0 => exact absurd h0 hk
  | @alone t s _ hn =>
    rw [hn]
    refine ⟨by simp, ?_⟩
    simp [revS]
  | @fall t t' s x _ hx ha =>
    have hm := List.mem_of_getElem? hx
    obtain ⟨hsp, h0⟩ := last_split hx
    have := away_nf ha (kin_nf hw hm)
    split at this
    · rename_i hz
      obtain ⟨_, rfl⟩ := this
      refine ⟨by rw [decide_eq_false (by omega)], ?_⟩
      rw [hz, Nat.zero_min, Nat.zero_sub]
      obtain ⟨p, told, n⟩ := t'
      dsimp only at hz; subst hz; rfl
    · exact absurd this.1 (by simp)
  | @next t t1 t' s x b _ hx ha _ ih =>
    have hm := List.mem_of_getElem? hx
    obtain ⟨hsp, h0⟩ := last_split hx
    have := away_nf ha (kin_nf hw hm)
    split at this
    · exact absurd this.1 (by simp)
    · rename_i hz
      obtain ⟨_, rfl⟩ := this
      have hkx : (dget t.p.l x).1.kind ≠ 0 := (hw.ok.on x).1 (kin_in hm).2
      have hks : (dget (mTake t.p x).2.2.l s).1.kind ≠ 0 := by
        rw [take_F hw.ok hkx]
        show (dget (dtake t.p.l x).2.2 s).1.kind ≠ 0
        rw [take_get hw.ok.rel hkx, if_neg (by rintro rfl; exact kin_not hw.ok _ hm)]; exact hk
      obtain ⟨i1, i2⟩ := ih (hw.take x) hks
      dsimp only at i1 i2
      rw [kin_last hw.ok hx, List.length_take] at i1 i2
      refine ⟨by rw [i1, decide_eq_decide]; omega, ?_⟩
      rw [i2]
      congr 1
      · rw [show min t.n (ftKin t.p.F s).length = min (t.n - 1) (min ((ftKin t.p.F s).length - 1) (ftKin t.p.F s).length) + 1 by omega]
        conv => rhs; unfold revS; rw [hx]
      · omega
end Go.Proofs.Ytdodfnjmkpgdbaa
end
section
set_option linter.unusedVariables false
set_option linter.unusedSimpArgs false
namespace Go.Proofs.Ytdodfnjmkpgdbaa
open Go.SL
structure OpC.Rg (o : OpC) : Prop where
  c : o.c.Rg
  rights : i64R o.rights
  badge : u64R o.badge
  guard : u64R o.guard
end Go.Proofs.Ytdodfnjmkpgdbaa
end
section
set_option linter.unusedVariables false
set_option linter.unusedSimpArgs false
set_option linter.unusedSectionVars false
namespace Go.Proofs.Ytdodfnjmkpgdbaa
open Go.SL
instance encCap : Enc CapM.cells 6 := ⟨fun _ => rfl, fun _ => rfl⟩
theorem caps_neq {l1 l2 : List CapM} {i : Nat} {a b : CapM} (h1 : l1[i]? = some a) (h2 : l2[i]? = some b) (h : a ≠ b) : ¬ l1 = l2 := fun e => by
 subst e; rw [h1] at h2; cases h2; exact h rfl
theorem list_same {α : Type} {l1 l2 : List α} (hl : l1.length = l2.length) (h : ∀ j, j < l1.length → l1[j]? = l2[j]?) : l1 = l2 := by
 refine List.ext_getElem? fun j => ?_
 by_cases hj : j < l1.length
 ·
  exact h j hj
 rw [List.getElem?_eq_none (by omega), List.getElem?_eq_none (by omega)]
theorem rvErr_0 {l : List DN} {s : SlotM} {k : Int} (hk : (dget l s).1.kind ≠ 0) (h1 : 1 ≤ k) (h2 : k ≤ 1000) : rvErr l s k = 0 := by
 unfold rvErr; rw [if_neg (by omega), if_neg (fun h => hk h.2), dget_le hk]
theorem tr_rRevokeW (n cb : Nat) (H : Hp) (p : PS) (hC : CapsH n p cb H) (hw : WOk p) (hn : n ≤ 2 ^ 19) (sl : SlotM) (hk : (dget p.l sl).1.kind ≠ 0) (k : Nat) (h1 : 1 ≤ k) (h2 : k ≤ 1000) :
    Tr Try.prog 37 [cpP cb, slotV sl, .int .i64 k] H (fun u L' => ∃ v' T' H', Slc 24 6 v' 0 [] T' ∧ CapsH n (revS p sl (min k (ftKin p.F sl).length)) cb H' ∧ u = .tuple #[v', .bool (decide ((ftKin p.F sl).length ≤ k)), .int .i64 (if (ftKin p.F sl).length ≤ k then 0 else 11)] ∧ L' = T' ++ H') :=
  (tr_rRevoke n cb H p hC hw.ok hn sl k).mono fun u L' h => by
    rcases h with ⟨h0, _⟩ | ⟨_, b, t', v', T', H', hR, hI, rfl, rfl⟩
    · exact absurd (rvErr_0 hk (by omega) (by omega)) h0
    · obtain ⟨rfl, rfl⟩ := rev_eq hR hw hk
      refine ⟨v', T', H', hI.2.1, hI.1, ?_, rfl⟩
      simp only [Int.toNat_natCast, decide_eq_true_eq]
theorem tr_rslot (k : Int) : TrR Try.prog 35 [.int .i64 k] ([]) (slotV (0, k)) := by
 refine Tr.enter Try.func35 rfl Try.ntmps35 rfl (fun W F => ?_)
 refine Wp.app ?_
 refine Wp.seq ?_
 refine Wp.region ?_
 refine Ops.ef rfl (ef_allocK tyZ38 rfl) ?_
 rintro _ _ ⟨b1, rfl, rfl⟩
 refine Ops.nil ?_
 refine Ends.seq ?_
 refine Wp.seq ?_
 refine Wp.region ?_
 refine Ops.pv (pv_move rfl) rfl ?_
 refine Ops.pv (pv_build rfl) rfl ?_
 refine Ops.ef rfl (ef_storeK rfl rfl rfl rfl) ?_
 rintro _ _ ⟨rfl, rfl⟩
 refine Ops.nil ?_
 refine Ends.seq ?_
 refine Wp.ret ?_
 exact Ends.ret (res_one rfl (rv_cellK [_, _] rfl rfl rfl ⟨rfl, rfl, trivial⟩)) ⟨rfl, rfl⟩
set_option maxHeartbeats 2000000 in
theorem tr_sameCaps (G : Hp) (a1 a2 : Option Addr) (c1 c2 : Nat) (l1 l2 : List CapM) (hv1 : View G 6 (.slice a1 l1.length c1) l1.length (cel CapM.cells l1)) (hv2 : View G 6 (.slice a2 l2.length c2) l2.length (cel CapM.cells l2)) (hl : l1.length ≤ 2 ^ 40) : TrR Try.prog 40 [.slice a1 l1.length c1, .slice a2 l2.length c2] (G) (.bool (decide (l1 = l2))) := by
 refine Tr.enter Try.func40 rfl Try.ntmps40 rfl (fun W F => ?_)
 refine Wp.app ?_
 refine Wp.seq ?_
 refine Wp.region ?_
 refine Ops.pv (pv_assign rfl) rfl ?_
 refine Ops.nil ?_
 refine Ends.seq ?_
 refine Wp.seq ?_
 refine Wp.seq ?_
 refine Wp.region ?_
 refine Ops.pv (pv_move rfl) rfl ?_
 refine Ops.pv (pv_len_slice (T := 63) rfl rfl) rfl ?_
 refine Ops.pv (pv_move rfl) rfl ?_
 refine Ops.pv (pv_len_slice (T := 63) rfl rfl) rfl ?_
 refine Ops.pv (pv_neq rfl rfl) rfl ?_
 refine Ops.nil ?_
 refine Ends.seq ?_
 refine Wp.cond_dect rfl (fun h1 => ?_) (fun h1 => ?_)
 ·
  refine Wp.seq ?_
  refine Wp.region ?_
  refine Ops.pv (pv_assign rfl) rfl ?_
  refine Ops.nil ?_
  refine Ends.seq ?_
  refine Wp.ret ?_
  refine Ends.then_ret ?_
  exact Ends.ret (res1 rfl rfl) ⟨by rw [decide_eq_false (fun e => by subst e; omega)], rfl⟩
 refine Wp.skip ?_
 refine Ends.seq ?_
 refine Wp.seq ?_
 refine Wp.seq ?_
 refine Wp.region ?_
 refine Ops.pv (pv_assign rfl) rfl ?_
 refine Ops.nil ?_
 refine Ends.seq ?_
 refine Wp.block ?_
 refine Wp.loopK (σ := Nat) [(0, _), (1, _)] (fun s => [(5, .int .i64 s)]) (fun s => G ++ F) (fun s => s ≤ l1.length ∧ ∀ j, j < s → l1[j]? = l2[j]?) (fun s => l1.length - s) 0 ⟨Nat.zero_le _, fun j hj => absurd hj (Nat.not_lt_zero j)⟩ ⟨rfl, rfl, trivial⟩ ⟨rfl, trivial⟩ (by intro w ho; (try dsimp only [List.nil_append, List.cons_append]); exact Drop.own ho) ?_
 rintro i KK ⟨hi, hn⟩ hK
 dsimp only [List.cons_append, List.nil_append] at hK ⊢
 refine Wp.seq ?_
 refine Wp.seq ?_
 refine Wp.region ?_
 refine Ops.pv (pv_move rfl) rfl ?_
 refine Ops.pv (pv_move rfl) rfl ?_
 refine Ops.pv (pv_len_slice (T := 63) rfl rfl) rfl ?_
 refine Ops.pv (pv_lss rfl rfl) rfl ?_
 refine Ops.nil ?_
 refine Ends.seq ?_
 refine Wp.cond_dect rfl (fun h2 => ?_) (fun h2 => ?_)
 ·
  obtain ⟨b6, o6, cap6, cc6, T6, f6, hw6, hbv6, hr6⟩ := hv1.open (by omega)
  cases hw6
  obtain ⟨s1, hs1⟩ : ∃ s, l1[i]? = some s := ⟨_, List.getElem?_eq_getElem (by omega)⟩
  have hre1 := cel_reads hr6 hs1
  obtain ⟨b7, o7, cap7, cc7, T7, f7, hw7, hbv7, hr7⟩ := hv2.open (by omega)
  cases hw7
  obtain ⟨s2, hs2⟩ : ∃ s, l2[i]? = some s := ⟨_, List.getElem?_eq_getElem (by omega)⟩
  have hre2 := cel_reads hr7 hs2
  refine Wp.skip ?_
  refine Ends.seq ?_
  refine Wp.seq ?_
  refine Wp.block ?_
  refine Wp.seq ?_
  refine AnyH.start G 9 rfl ?_
  refine Tk 0 rfl rfl (pv_move rfl) rfl ?_
  refine Tk 1 rfl rfl (pv_move rfl) rfl ?_
  refine Tk 2 rfl rfl (pv_indexAddr (i := i) rfl rfl rfl (by omega)) rfl ?_
  refine Tk 3 rfl rfl (pv_loadK [.int .i64 s1.kind, .int .i64 s1.object, .int .i64 s1.rights, .int .u64 s1.badge, .int .u64 s1.guard, .int .i64 s1.bits] rfl rfl rfl hre1) rfl ?_
  refine Tk 4 rfl rfl (pv_move rfl) rfl ?_
  refine Tk 5 rfl rfl (pv_move rfl) rfl ?_
  refine Tk 6 rfl rfl (pv_indexAddr (i := i) rfl rfl rfl (by omega)) rfl ?_
  refine Tk 7 rfl rfl (pv_loadK [.int .i64 s2.kind, .int .i64 s2.object, .int .i64 s2.rights, .int .u64 s2.badge, .int .u64 s2.guard, .int .i64 s2.bits] rfl rfl rfl hre2) rfl ?_
  refine Tk 8 rfl rfl (pv_neq_cap (a := s1) (b := s2) rfl rfl) rfl ?_
  refine AnyH.done (by kernel_rfl) ?_
  refine Ends.seq ?_
  refine Wp.cond_dect rfl (fun h3 => ?_) (fun h3 => ?_)
  ·
   refine Wp.seq ?_
   refine Wp.region ?_
   refine Ops.pv (pv_assign rfl) rfl ?_
   refine Ops.nil ?_
   refine Ends.seq ?_
   refine Wp.ret ?_
   refine Ends.block_ret ?_
   refine Ends.then_ret ?_
   refine Ends.then_ret ?_
   refine Ends.block_ret ?_
   refine Ends.then_ret ?_
   exact Ends.ret (res1 rfl rfl) ⟨by rw [decide_eq_false (caps_neq hs1 hs2 (by assumption))], rfl⟩
  refine Wp.skip ?_
  refine Ends.block_normal ?_
  refine Ends.seq ?_
  refine Wp.region ?_
  refine Ops.pv (pv_move rfl) rfl ?_
  refine Ops.pv (pv_add rfl rfl (w64 (by omega) (by omega))) rfl ?_
  refine Ops.pv (pv_assign rfl) rfl ?_
  refine Ops.nil ?_
  refine Ends.goes ?_
  refine Goes.back (hK (i + 1) ⟨by omega, fun j hj => ?_⟩ (by omega)) ⟨rfl, rfl, rfl, trivial⟩
  rcases Nat.lt_succ_iff_lt_or_eq.1 hj with hj | rfl
  ·
   exact hn j hj
  rw [hs1, hs2, show s1 = s2 by simp_all]
 refine Wp.exit ?_
 refine Ends.then_exit ?_
 refine Ends.then_exit ?_
 refine Ends.block_hit ?_
 refine Ends.seq ?_
 refine Wp.seq ?_
 refine Wp.region ?_
 refine Ops.pv (pv_assign rfl) rfl ?_
 refine Ops.nil ?_
 refine Ends.seq ?_
 refine Wp.ret ?_
 exact Ends.ret (res1 rfl rfl) ⟨by rw [decide_eq_true (list_same (by omega) (fun j hj => hn j (by omega)))], rfl⟩
end Go.Proofs.Ytdodfnjmkpgdbaa
end
