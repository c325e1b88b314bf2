/- Walks of layer 17: Ready's methods, the program's and the document's, answer as the plain functions say. No condition. -/
import Derived.Test.YtpjodkcghiklcabM17h
set_option linter.unusedVariables false
set_option linter.unusedSimpArgs false
namespace Go.Proofs.Ytpjodkcghiklcab
open Go.SL
theorem pair_of {e : Int × Int} {x : Int} (h : e.1 = x) : e = (x, e.2) := by subst h; rfl

theorem tr_high (w : Nat) (hw : w < 2 ^ 64) : TrR Try.prog 42 [.int .u64 w] ([]) (.int .i64 (hiM (fun k => w.testBit k) 64)) := by
  refine Tr.enter Try.func42 rfl Try.ntmps42 rfl (fun W F => ?_)
  refine Wp.app ?_
  refine Wp.seq ?_
  refine Wp.region ?_
  refine Ops.pv (pv_assign rfl) rfl ?_
  refine Ops.nil ?_
  refine Ends.seq ?_
  refine Wp.seq ?_
  refine Wp.seq ?_
  refine Wp.region ?_
  refine Ops.pv (pv_move rfl) rfl ?_
  refine Ops.nil ?_
  refine Ends.seq ?_
  refine Wp.block ?_
  refine Wp.loopK (σ := Nat) [(0, _)] (fun s => [(4, .int .i64 s)]) (fun s => F) (fun s => s ≤ 64 ∧ hiM (fun k => w.testBit k) 64 = hiM (fun k => w.testBit k) (64 - s)) (fun s => 64 - s) 0 ⟨Nat.zero_le _, rfl⟩ ⟨rfl, trivial⟩ ⟨rfl, trivial⟩ (by intro w ho; (try dsimp only [List.nil_append, List.cons_append]); exact Drop.own ho) ?_
  rintro i KK ⟨hi, hh⟩ hK
  dsimp only [List.cons_append, List.nil_append] at hK ⊢
  refine Wp.seq ?_
  refine Wp.region ?_
  refine Ops.pv (pv_lss rfl rfl) rfl ?_
  refine Ops.nil ?_
  refine Ends.seq ?_
  refine Wp.seq ?_
  first | refine Wp.cond_dect rfl (fun h1 => ?_) (fun h1 => ?_) | refine Wp.cond_t rfl (fun h1 => ?_) (fun h1 => ?_)
  · refine Wp.skip ?_
    refine Ends.seq ?_
    refine Wp.seq ?_
    refine Wp.block ?_
    refine Wp.seq ?_
    refine Wp.region ?_
    refine Ops.pv (pv_move rfl) rfl ?_
    refine Ops.pv (pv_assign rfl) rfl ?_
    refine Ops.nil ?_
    refine Ends.seq ?_
    refine Wp.seq ?_
    refine Wp.region ?_
    refine Ops.pv (pv_move rfl) rfl ?_
    refine Ops.pv (pv_move rfl) rfl ?_
    refine Ops.pv (pv_sub rfl rfl (w64n (k := 63 - i) (by omega) (by omega))) rfl ?_
    refine Ops.pv (pv_shr rfl rfl (by omega) (shrn (by omega))) rfl ?_
    refine Ops.pv (pv_and rfl rfl (and_mask (w / 2 ^ (63 - i)) 1 (Nat.lt_of_le_of_lt (Nat.div_le_self _ _) hw) (by omega))) rfl ?_
    refine Ops.pv (pv_eql rfl rfl) rfl ?_
    refine Ops.nil ?_
    refine Ends.seq ?_
    first | refine Wp.cond_dect rfl (fun h2 => ?_) (fun h2 => ?_) | refine Wp.cond_t rfl (fun h2 => ?_) (fun h2 => ?_)
    · refine Wp.seq ?_
      refine Wp.region ?_
      refine Ops.pv (pv_move rfl) rfl ?_
      refine Ops.pv (pv_sub rfl rfl (w64n (k := 63 - i) (by omega) (by omega))) rfl ?_
      refine Ops.pv (pv_assign rfl) rfl ?_
      refine Ops.nil ?_
      refine Ends.seq ?_
      refine Wp.ret ?_
      refine Ends.block_ret ?_
      refine Ends.then_ret ?_
      refine Ends.then_ret ?_
      refine Ends.block_ret ?_
      refine Ends.then_ret ?_
      have hb : w.testBit (63 - i) = true := by
        rw [Nat.testBit_eq_decide_div_mod_eq]; simp; omega
      have h5 : hiM (fun k => w.testBit k) (64 - i) = ((63 - i : Nat) : Int) := by
        rw [show 64 - i = (63 - i) + 1 by omega]; simp only [hiM]; rw [if_pos hb]
      rw [h5] at hh
      exact Ends.ret (res1 rfl rfl) ⟨by rw [hh], rfl⟩
    · refine Wp.skip ?_
      refine Ends.block_normal ?_
      refine Ends.seq ?_
      refine Wp.region ?_
      first | refine Ops.pv (pv_add rfl rfl (w64 (by omega) (by omega))) rfl ?_ | refine Ops.pv (pv_add rfl rfl rfl) rfl ?_
      refine Ops.pv (pv_move rfl) rfl ?_
      refine Ops.nil ?_
      refine Ends.goes ?_
      refine Goes.back (hK (i + 1) ⟨by omega, by
          have hb : w.testBit (63 - i) = false := by
            rw [Nat.testBit_eq_decide_div_mod_eq]; simp; omega
          rw [hh, show 64 - i = (63 - i) + 1 by omega]
          simp only [hiM]; rw [if_neg (by rw [hb]; simp), show 64 - (i + 1) = 63 - i by omega]⟩ (by omega)) ⟨rfl, rfl, trivial⟩
  · refine Wp.exit ?_
    refine Ends.then_exit ?_
    refine Ends.then_exit ?_
    refine Ends.block_hit ?_
    refine Ends.seq ?_
    refine Wp.seq ?_
    refine Wp.region ?_
    refine Ops.pv (pv_assign rfl) rfl ?_
    refine Ops.nil ?_
    refine Ends.seq ?_
    refine Wp.ret ?_
    obtain rfl : i = 64 := by omega
    exact Ends.ret (res1 rfl rfl) ⟨by rw [hh, Nat.sub_self]; rfl, rfl⟩

theorem tr_highB (p : Nat → Bool) : TrR Try.prog 42 [.int .u64 (bitsN p 8 : Nat)] [] (.int .i64 (hiM p 8)) :=
  (tr_high (bitsN p 8) (Nat.lt_of_lt_of_le (bitsN_lt p 8) (by decide))).eq (by rw [hiM_bits])

theorem tr_note (rb : Nat) (vs : Nat → Value) (p : Nat → Bool) (k : Nat) (hk : k < 8) (a : Option Addr) (n c : Nat) (hv : vs k = .slice a n c) : Tr Try.prog 41 [.pointer (some ⟨rb, 0, none⟩), .int .i64 k] ([(rb, .cells (rdyC vs (bitsN p 8)).toArray 73)]) (fun u L' => u = .tuple #[] ∧ L' = [(rb, .cells (rdyC vs (bitsN (fset p k (decide (0 < n))) 8)).toArray 73)]) := by
  have hline : nth (rdyC vs (bitsN (fset p k false) 8)) (0 + k * 1 + 0) = some (.slice a n c) := by rw [← hv]; exact rdy_line hk
  have hs1 : IntKind.u64.wrap (1 * 2 ^ (min (k : Int).toNat 64)) = ((2 ^ k : Nat) : Int) := shl1 (by omega)
  refine Tr.enter Try.func41 rfl Try.ntmps41 rfl (fun W F => ?_)
  refine Wp.app ?_
  refine Wp.seq ?_
  refine AnyH.start ([] : Hp) 10 rfl ?_
  refine AnyH.take 0 rfl (by kernel_rfl) (by kernel_rfl) (by kernel_rfl) PF.pf rfl (pv_move rfl) rfl ?_
  first | refine AnyH.take 1 rfl (by kernel_rfl) (by kernel_rfl) (by kernel_rfl) PF.pf rfl (pv_nilCheck rfl) rfl ?_ | refine AnyH.take 1 rfl (by kernel_rfl) (by kernel_rfl) (by kernel_rfl) PF.pf rfl (pv_nilCheck_func rfl rfl) rfl ?_
  first | refine AnyH.take 2 rfl (by kernel_rfl) (by kernel_rfl) (by kernel_rfl) PF.pf rfl (pv_fieldAddr0 rfl rfl) rfl ?_ | refine AnyH.take 2 rfl (by kernel_rfl) (by kernel_rfl) (by kernel_rfl) PF.pf rfl (pv_fieldAddr rfl rfl) rfl ?_
  refine AnyH.take 4 rfl (by kernel_rfl) (by kernel_rfl) (by kernel_rfl) PF.pf rfl (pv_move rfl) rfl ?_
  refine AnyH.take 5 rfl (by kernel_rfl) (by kernel_rfl) (by kernel_rfl) PF.pf rfl (pv_shl rfl rfl (by omega) hs1) rfl ?_
  refine AnyH.one 3 (by kernel_rfl) ?_
  refine Turn.ef rfl rfl (ef_pv (pv_load rfl rfl rdy_lev) rfl) ?_ ?_
  · rintro _ _ ⟨rfl, rfl⟩; infer_instance
  rintro _ _ ⟨rfl, rfl⟩
  refine AnyH.take 6 rfl (by kernel_rfl) (by kernel_rfl) (by kernel_rfl) PF.pf rfl (pv_andNot rfl rfl (bitsN_andNot hk)) rfl ?_
  first | refine AnyH.take 7 rfl (by kernel_rfl) (by kernel_rfl) (by kernel_rfl) PF.pf rfl (pv_nilCheck rfl) rfl ?_ | refine AnyH.take 7 rfl (by kernel_rfl) (by kernel_rfl) (by kernel_rfl) PF.pf rfl (pv_nilCheck_func rfl rfl) rfl ?_
  first | refine AnyH.take 8 rfl (by kernel_rfl) (by kernel_rfl) (by kernel_rfl) PF.pf rfl (pv_fieldAddr0 rfl rfl) rfl ?_ | refine AnyH.take 8 rfl (by kernel_rfl) (by kernel_rfl) (by kernel_rfl) PF.pf rfl (pv_fieldAddr rfl rfl) rfl ?_
  refine AnyH.one 9 (by kernel_rfl) ?_
  refine Turn.ef rfl rfl (ef_store1 rfl rfl (by first | rfl | assumption) (by first | rfl | assumption)) ?_ ?_
  · rintro _ _ ⟨rfl, rfl⟩; infer_instance
  rintro _ _ ⟨rfl, rfl⟩
  refine AnyH.done (by kernel_rfl) ?_
  refine Ends.seq ?_
  refine Wp.seq ?_
  refine Wp.region ?_
  refine Ops.pv (pv_move rfl) rfl ?_
  refine Ops.pv (pv_move rfl) rfl ?_
  first | refine Ops.pv (pv_nilCheck rfl) rfl ?_ | refine Ops.pv (pv_nilCheck_func rfl rfl) rfl ?_
  first | refine Ops.pv (pv_fieldAddr0 rfl rfl) rfl ?_ | refine Ops.pv (pv_fieldAddr rfl rfl) rfl ?_
  refine Ops.pv (pv_indexAddrA rfl rfl rfl (by omega)) rfl ?_
  first | refine Ops.pv (pv_fieldAddr0 rfl rfl) rfl ?_ | refine Ops.pv (pv_fieldAddr rfl rfl) rfl ?_
  first | refine Ops.pv (pv_load rfl rfl rfl) rfl ?_ | refine Ops.pv (pv_load rfl rfl (by assumption)) rfl ?_
  refine Ops.pv (pv_len_slice (T := 40) rfl rfl) rfl ?_
  refine Ops.pv (pv_gtr rfl rfl) rfl ?_
  refine Ops.nil ?_
  refine Ends.seq ?_
  first | refine Wp.cond_dect rfl (fun h1 => ?_) (fun h1 => ?_) | refine Wp.cond_t rfl (fun h1 => ?_) (fun h1 => ?_)
  · refine AnyH.start ([] : Hp) 10 rfl ?_
    refine AnyH.take 0 rfl (by kernel_rfl) (by kernel_rfl) (by kernel_rfl) PF.pf rfl (pv_move rfl) rfl ?_
    first | refine AnyH.take 1 rfl (by kernel_rfl) (by kernel_rfl) (by kernel_rfl) PF.pf rfl (pv_nilCheck rfl) rfl ?_ | refine AnyH.take 1 rfl (by kernel_rfl) (by kernel_rfl) (by kernel_rfl) PF.pf rfl (pv_nilCheck_func rfl rfl) rfl ?_
    first | refine AnyH.take 2 rfl (by kernel_rfl) (by kernel_rfl) (by kernel_rfl) PF.pf rfl (pv_fieldAddr0 rfl rfl) rfl ?_ | refine AnyH.take 2 rfl (by kernel_rfl) (by kernel_rfl) (by kernel_rfl) PF.pf rfl (pv_fieldAddr rfl rfl) rfl ?_
    refine AnyH.take 4 rfl (by kernel_rfl) (by kernel_rfl) (by kernel_rfl) PF.pf rfl (pv_move rfl) rfl ?_
    refine AnyH.take 5 rfl (by kernel_rfl) (by kernel_rfl) (by kernel_rfl) PF.pf rfl (pv_shl rfl rfl (by omega) hs1) rfl ?_
    refine AnyH.one 3 (by kernel_rfl) ?_
    refine Turn.ef rfl rfl (ef_pv (pv_load rfl rfl rdy_lev) rfl) ?_ ?_
    · rintro _ _ ⟨rfl, rfl⟩; infer_instance
    rintro _ _ ⟨rfl, rfl⟩
    refine AnyH.take 6 rfl (by kernel_rfl) (by kernel_rfl) (by kernel_rfl) PF.pf rfl (pv_or rfl rfl (bitsN_or hk)) rfl ?_
    first | refine AnyH.take 7 rfl (by kernel_rfl) (by kernel_rfl) (by kernel_rfl) PF.pf rfl (pv_nilCheck rfl) rfl ?_ | refine AnyH.take 7 rfl (by kernel_rfl) (by kernel_rfl) (by kernel_rfl) PF.pf rfl (pv_nilCheck_func rfl rfl) rfl ?_
    first | refine AnyH.take 8 rfl (by kernel_rfl) (by kernel_rfl) (by kernel_rfl) PF.pf rfl (pv_fieldAddr0 rfl rfl) rfl ?_ | refine AnyH.take 8 rfl (by kernel_rfl) (by kernel_rfl) (by kernel_rfl) PF.pf rfl (pv_fieldAddr rfl rfl) rfl ?_
    refine AnyH.one 9 (by kernel_rfl) ?_
    refine Turn.ef rfl rfl (ef_store1 rfl rfl (by first | rfl | assumption) (by first | rfl | assumption)) ?_ ?_
    · rintro _ _ ⟨rfl, rfl⟩; infer_instance
    rintro _ _ ⟨rfl, rfl⟩
    refine AnyH.done (by kernel_rfl) ?_
    rw [fset_fset]
    exact Ends.fin (L' := [(rb, .cells (rdyC vs (bitsN (fset p k true) 8)).toArray 73)]) (res0 rfl) ⟨rfl, by rw [decide_eq_true (show 0 < n by omega)]⟩
  · refine Wp.skip ?_
    exact Ends.fin (L' := [(rb, .cells (rdyC vs (bitsN (fset p k false) 8)).toArray 73)]) (res0 rfl) ⟨rfl, by rw [decide_eq_false (show ¬ 0 < n by omega)]⟩

theorem tr_newReady  : Tr Try.prog 28 [] ([]) (fun v L' => ∃ rb, v = .pointer (some ⟨rb, 0, none⟩) ∧ RdyH [] rb L') := by
  refine Tr.enter Try.func28 rfl Try.ntmps28 rfl (fun W F => ?_)
  refine Wp.app ?_
  refine Wp.seq ?_
  refine Wp.region ?_
  refine Ops.pv (pv_assign rfl) rfl ?_
  refine Ops.nil ?_
  refine Ends.seq ?_
  refine Wp.seq ?_
  refine Wp.region ?_
  refine Ops.pv (pv_build rfl) rfl ?_
  refine Ops.ef rfl (ef_boxK rfl rfl) ?_
  rintro _ _ ⟨b1, rfl, rfl⟩
  refine Ops.pv (pv_assign rfl) rfl ?_
  refine Ops.nil ?_
  refine Ends.seq ?_
  refine Wp.ret ?_
  exact Ends.ret (L' := [(b1, .cells [.slice none 0 0, .slice none 0 0, .slice none 0 0, .slice none 0 0, .slice none 0 0, .slice none 0 0, .slice none 0 0, .slice none 0 0, .int .u64 0].toArray 73)]) (res1 rfl rfl) ⟨b1, rfl, fun _ => .slice none 0 0, fun _ => [], fun _ _ => Slc.nil _ _, by rw [levN_nil, segs_nil]; rfl⟩

theorem tr_rdyNext (rb : Nat) (H : Hp) (L : Ones) (hH : RdyH L rb H) (hW : RdyW L) (hl : L.length ≤ 2 ^ 20) : TrR Try.prog 31 [.pointer (some ⟨rb, 0, none⟩)] (H) (.tuple #[.int .i64 (nextV L), .bool (nextB L)]) := by
  obtain ⟨vs, h, hs, rfl⟩ := hH
  have hlv : ∀ k : Int, (lvl L k).length ≤ 2 ^ 20 := fun k => Nat.le_trans (lvl_len L k) hl
  refine Tr.enter Try.func31 rfl Try.ntmps31 rfl (fun W F => ?_)
  refine Wp.app ?_
  refine Wp.seq ?_
  refine Wp.region ?_
  refine Ops.pv (pv_assign rfl) rfl ?_
  refine Ops.pv (pv_assign rfl) rfl ?_
  refine Ops.nil ?_
  refine Ends.seq ?_
  refine Wp.seq ?_
  refine Wp.region ?_
  refine Ops.pv (pv_move rfl) rfl ?_
  first | refine Ops.pv (pv_nilCheck rfl) rfl ?_ | refine Ops.pv (pv_nilCheck_func rfl rfl) rfl ?_
  first | refine Ops.pv (pv_fieldAddr0 rfl rfl) rfl ?_ | refine Ops.pv (pv_fieldAddr rfl rfl) rfl ?_
  refine Ops.pv (pv_load rfl rfl rdy_lev) rfl ?_
  refine Ops.ef rfl (ef_callr (tr_highB (has L)) rfl rfl) ?_
  rintro _ _ ⟨rfl, rfl⟩
  refine Ops.pv (pv_assign rfl) rfl ?_
  refine Ops.nil ?_
  refine Ends.seq ?_
  refine Wp.seq ?_
  refine Wp.seq ?_
  refine Wp.region ?_
  refine Ops.pv (pv_move rfl) rfl ?_
  refine Ops.pv (pv_lss rfl rfl) rfl ?_
  refine Ops.nil ?_
  refine Ends.seq ?_
  first | refine Wp.cond_dect rfl (fun h1 => ?_) (fun h1 => ?_) | refine Wp.cond_t rfl (fun h1 => ?_) (fun h1 => ?_)
  · refine Wp.seq ?_
    refine Wp.region ?_
    refine Ops.pv (pv_assign rfl) rfl ?_
    refine Ops.pv (pv_assign rfl) rfl ?_
    refine Ops.nil ?_
    refine Ends.seq ?_
    refine Wp.ret ?_
    refine Ends.then_ret ?_
    exact Ends.ret (res2 rfl rfl rfl) ⟨by rw [nextV, nextB, if_pos (by assumption), decide_eq_false (by unfold nextI at *; omega)], rfl⟩
  · refine Wp.skip ?_
    refine Ends.seq ?_
    refine Wp.seq ?_
    refine Wp.region ?_
    obtain ⟨k, hk0⟩ : ∃ k : Nat, nextI L = k := ⟨(nextI L).toNat, by unfold nextI; omega⟩
    have hnx : nextI L = k := hk0
    obtain ⟨hk, y, t, hyt⟩ := next_some hnx
    unfold nextI at hk0
    rw [hk0]
    obtain ⟨a, c, ea, hv, hline⟩ := hs.view hk (levN L)
    rw [hyt] at hv hline
    obtain ⟨b, o, cap, cc, T, f, hv1, hbv, hr⟩ := hv.open (by simp)
    cases hv1
    have hny := ints_nth (i := 0) hr rfl
    refine Ops.pv (pv_move rfl) rfl ?_
    refine Ops.pv (pv_move rfl) rfl ?_
    first | refine Ops.pv (pv_nilCheck rfl) rfl ?_ | refine Ops.pv (pv_nilCheck_func rfl rfl) rfl ?_
    first | refine Ops.pv (pv_fieldAddr0 rfl rfl) rfl ?_ | refine Ops.pv (pv_fieldAddr rfl rfl) rfl ?_
    refine Ops.pv (pv_indexAddrA (i := k) rfl rfl rfl hk) rfl ?_
    first | refine Ops.pv (pv_fieldAddr0 rfl rfl) rfl ?_ | refine Ops.pv (pv_fieldAddr rfl rfl) rfl ?_
    first | refine Ops.pv (pv_load rfl rfl rfl) rfl ?_ | refine Ops.pv (pv_load rfl rfl (by assumption)) rfl ?_
    refine Ops.pv (pv_indexAddr (i := 0) rfl rfl rfl (by first | omega | (simp; done) | (simp; omega))) rfl ?_
    first | refine Ops.pv (pv_load rfl rfl rfl) rfl ?_ | refine Ops.pv (pv_load rfl rfl (by assumption)) rfl ?_
    refine Ops.pv (pv_assign rfl) rfl ?_
    refine Ops.pv (pv_assign rfl) rfl ?_
    refine Ops.nil ?_
    refine Ends.seq ?_
    refine Wp.ret ?_
    exact Ends.ret (res2 rfl rfl rfl) ⟨by rw [nextV, nextB, hnx, if_neg (by omega), decide_eq_true (by omega), hyt]; rfl, rfl⟩

theorem tr_rdyList (rb : Nat) (H : Hp) (L : Ones) (hH : RdyH L rb H) (hW : RdyW L) (hl : L.length ≤ 2 ^ 20) (k : Int) : Tr Try.prog 38 [.pointer (some ⟨rb, 0, none⟩), .int .i64 k] (H) (fun u L' => ∃ H', Slc 3 1 u (lvl L k).length (intsC (lvl L k)) H' ∧ L' = H' ++ H) := by
  obtain ⟨vs, h, hs, rfl⟩ := hH
  have hlv : ∀ k : Int, (lvl L k).length ≤ 2 ^ 20 := fun k => Nat.le_trans (lvl_len L k) hl
  refine Tr.enter Try.func38 rfl Try.ntmps38 rfl (fun W F => ?_)
  refine Wp.app ?_
  refine Wp.seq ?_
  refine Wp.region ?_
  refine Ops.pv (pv_assign rfl) rfl ?_
  refine Ops.nil ?_
  refine Ends.seq ?_
  refine Wp.seq ?_
  refine Wp.seq ?_
  refine Wp.region ?_
  refine Ops.pv (pv_move rfl) rfl ?_
  refine Ops.pv (pv_lss rfl rfl) rfl ?_
  refine Ops.pv (pv_move rfl) rfl ?_
  first | refine Ops.split (t := 7) rfl (fun h1 => ?_) (fun h1 => ?_) | refine Ops.splitb (t := 7) rfl (fun h1 => ?_) (fun h1 => ?_)
  · refine Ops.skipg ⟨_, _, rfl, rfl, rfl⟩ rfl ?_
    refine Ops.skipg ⟨_, _, rfl, rfl, rfl⟩ rfl ?_
    refine Ops.pv (pv_pick_true rfl rfl) rfl ?_
    refine Ops.nil ?_
    refine Ends.seq ?_
    refine Wp.cond_true rfl ?_
    refine Wp.seq ?_
    refine Wp.region ?_
    refine Ops.pv (pv_assign rfl) rfl ?_
    refine Ops.nil ?_
    refine Ends.seq ?_
    refine Wp.ret ?_
    refine Ends.then_ret ?_
    exact Ends.ret (L' := (rb, .cells (rdyC vs (levN L)).toArray 73) :: segs h 8) (res1 rfl rfl) ⟨[], by rw [lvl_out hW (by omega)]; exact Slc.nil _ _, rfl⟩
  · refine Ops.pvg ⟨_, _, rfl, rfl, rfl⟩ (pv_move rfl) rfl ?_
    refine Ops.pvg ⟨_, _, rfl, rfl, rfl⟩ (pv_geq rfl rfl) rfl ?_
    refine Ops.pv (pv_pick_false rfl rfl) rfl ?_
    refine Ops.nil ?_
    refine Ends.seq ?_
    first | refine Wp.cond_dect rfl (fun h2 => ?_) (fun h2 => ?_) | refine Wp.cond_t rfl (fun h2 => ?_) (fun h2 => ?_)
    · refine Wp.seq ?_
      refine Wp.region ?_
      refine Ops.pv (pv_assign rfl) rfl ?_
      refine Ops.nil ?_
      refine Ends.seq ?_
      refine Wp.ret ?_
      refine Ends.then_ret ?_
      exact Ends.ret (L' := (rb, .cells (rdyC vs (levN L)).toArray 73) :: segs h 8) (res1 rfl rfl) ⟨[], by rw [lvl_out hW (by omega)]; exact Slc.nil _ _, rfl⟩
    · refine Wp.skip ?_
      refine Ends.seq ?_
      refine Wp.seq ?_
      refine Wp.region ?_
      obtain ⟨k, rfl⟩ : ∃ n : Nat, k = n := ⟨k.toNat, by omega⟩
      obtain ⟨a, c, ea, hv, hline⟩ := hs.view (show k < 8 by omega) (levN L)
      refine Ops.pv (pv_move rfl) rfl ?_
      refine Ops.pv (pv_move rfl) rfl ?_
      first | refine Ops.pv (pv_nilCheck rfl) rfl ?_ | refine Ops.pv (pv_nilCheck_func rfl rfl) rfl ?_
      first | refine Ops.pv (pv_fieldAddr0 rfl rfl) rfl ?_ | refine Ops.pv (pv_fieldAddr rfl rfl) rfl ?_
      refine Ops.pv (pv_indexAddrA rfl rfl rfl (by omega)) rfl ?_
      refine Ops.ef rfl (ef_call (tr_listG rb (0 + k * 1) 73 (rdyC vs (levN L)) (segs h 8) a c (lvl L k) hv (by have := hlv k; omega) hline) rfl rfl) ?_
      rintro _ _ ⟨_, _, ⟨H1, hs1, rfl⟩, rfl, rfl⟩
      refine Ops.app ?_
      skip
      refine Ops.pv (pv_assign rfl) rfl ?_
      refine Ops.nil ?_
      refine Ends.seq ?_
      refine Wp.ret ?_
      exact Ends.ret (L' := H1 ++ ((rb, .cells (rdyC vs (levN L)).toArray 73) :: segs h 8)) (res1 rfl rfl) ⟨H1, hs1, rfl⟩

theorem tr_rdyPut (rb : Nat) (H : Hp) (L : Ones) (hH : RdyH L rb H) (hW : RdyW L) (hl : L.length ≤ 2 ^ 20) (x k : Int) : Tr Try.prog 30 [.pointer (some ⟨rb, 0, none⟩), .int .i64 x, .int .i64 k] (H) (fun u L' => u = .int .i64 (putE L x k) ∧ RdyH (putR L x k) rb L') := by
  obtain ⟨vs, h, hs, rfl⟩ := hH
  have hlv : ∀ k : Int, (lvl L k).length ≤ 2 ^ 20 := fun k => Nat.le_trans (lvl_len L k) hl
  refine Tr.enter Try.func30 rfl Try.ntmps30 rfl (fun W F => ?_)
  refine Wp.app ?_
  refine Wp.seq ?_
  refine Wp.region ?_
  refine Ops.pv (pv_assign rfl) rfl ?_
  refine Ops.nil ?_
  refine Ends.seq ?_
  refine Wp.seq ?_
  refine Wp.seq ?_
  refine Wp.region ?_
  refine Ops.pv (pv_move rfl) rfl ?_
  refine Ops.ef rfl (ef_callr (tr_right x) rfl rfl) ?_
  rintro _ _ ⟨rfl, rfl⟩
  first | refine Ops.pv (pv_not_dec rfl) rfl ?_ | refine Ops.pv (pv_not rfl) rfl ?_
  refine Ops.pv (pv_move rfl) rfl ?_
  first | refine Ops.split (t := 12) rfl (fun h1 => ?_) (fun h1 => ?_) | refine Ops.splitb (t := 12) rfl (fun h1 => ?_) (fun h1 => ?_)
  · refine Ops.skipg ⟨_, _, rfl, rfl, rfl⟩ rfl ?_
    refine Ops.skipg ⟨_, _, rfl, rfl, rfl⟩ rfl ?_
    refine Ops.pv (pv_pick_true rfl rfl) rfl ?_
    refine Ops.pv (pv_move rfl) rfl ?_
    refine Ops.skipg ⟨_, _, rfl, rfl, rfl⟩ rfl ?_
    refine Ops.skipg ⟨_, _, rfl, rfl, rfl⟩ rfl ?_
    refine Ops.pv (pv_pick_true rfl rfl) rfl ?_
    refine Ops.nil ?_
    refine Ends.seq ?_
    refine Wp.cond_true rfl ?_
    refine Wp.seq ?_
    refine Wp.region ?_
    refine Ops.pv (pv_assign rfl) rfl ?_
    refine Ops.nil ?_
    refine Ends.seq ?_
    refine Wp.ret ?_
    refine Ends.then_ret ?_
    exact Ends.ret (res1 rfl rfl) ⟨by rw [(put_out (by simp_all <;> omega)).1], by rw [(put_out (L := L) (by simp_all <;> omega)).2]; exact ⟨vs, h, hs, rfl⟩⟩
  · refine Ops.pvg ⟨_, _, rfl, rfl, rfl⟩ (pv_move rfl) rfl ?_
    refine Ops.pvg ⟨_, _, rfl, rfl, rfl⟩ (pv_lss rfl rfl) rfl ?_
    refine Ops.pv (pv_pick_false rfl rfl) rfl ?_
    refine Ops.pv (pv_move rfl) rfl ?_
    first | refine Ops.split (t := 16) rfl (fun h2 => ?_) (fun h2 => ?_) | refine Ops.splitb (t := 16) rfl (fun h2 => ?_) (fun h2 => ?_)
    · refine Ops.skipg ⟨_, _, rfl, rfl, rfl⟩ rfl ?_
      refine Ops.skipg ⟨_, _, rfl, rfl, rfl⟩ rfl ?_
      refine Ops.pv (pv_pick_true rfl rfl) rfl ?_
      refine Ops.nil ?_
      refine Ends.seq ?_
      refine Wp.cond_true rfl ?_
      refine Wp.seq ?_
      refine Wp.region ?_
      refine Ops.pv (pv_assign rfl) rfl ?_
      refine Ops.nil ?_
      refine Ends.seq ?_
      refine Wp.ret ?_
      refine Ends.then_ret ?_
      exact Ends.ret (res1 rfl rfl) ⟨by rw [(put_out (by simp_all <;> omega)).1], by rw [(put_out (L := L) (by simp_all <;> omega)).2]; exact ⟨vs, h, hs, rfl⟩⟩
    · refine Ops.pvg ⟨_, _, rfl, rfl, rfl⟩ (pv_move rfl) rfl ?_
      refine Ops.pvg ⟨_, _, rfl, rfl, rfl⟩ (pv_geq rfl rfl) rfl ?_
      refine Ops.pv (pv_pick_false rfl rfl) rfl ?_
      refine Ops.nil ?_
      refine Ends.seq ?_
      first | refine Wp.cond_dect rfl (fun h3 => ?_) (fun h3 => ?_) | refine Wp.cond_t rfl (fun h3 => ?_) (fun h3 => ?_)
      · refine Wp.seq ?_
        refine Wp.region ?_
        refine Ops.pv (pv_assign rfl) rfl ?_
        refine Ops.nil ?_
        refine Ends.seq ?_
        refine Wp.ret ?_
        refine Ends.then_ret ?_
        exact Ends.ret (res1 rfl rfl) ⟨by rw [(put_out (by simp_all <;> omega)).1], by rw [(put_out (L := L) (by simp_all <;> omega)).2]; exact ⟨vs, h, hs, rfl⟩⟩
      · refine Wp.skip ?_
        refine Ends.seq ?_
        refine Wp.seq ?_
        refine Wp.seq ?_
        refine Wp.region ?_
        refine Ops.pv (pv_move rfl) rfl ?_
        refine Ops.nil ?_
        refine Ends.seq ?_
        refine Wp.block ?_
        refine Wp.loopK (σ := Nat) [(0, _), (1, _), (2, _)] (fun s => [(20, .int .i64 s)]) (fun s => (rb, .cells (rdyC vs (levN L)).toArray 73) :: (segs h 8 ++ F)) (fun s => s ≤ 8 ∧ ∀ j : Nat, j < s → ¬ 0 ≤ idxM (lvl L j) x) (fun s => 8 - s) 0 ⟨Nat.zero_le _, fun j hj => absurd hj (Nat.not_lt_zero j)⟩ ⟨rfl, rfl, rfl, trivial⟩ ⟨rfl, trivial⟩ (by intro w ho; (try dsimp only [List.nil_append, List.cons_append]); exact Drop.own ho) ?_
        rintro i KK ⟨hi, hn⟩ hK
        dsimp only [List.cons_append, List.nil_append] at hK ⊢
        refine Wp.seq ?_
        refine Wp.region ?_
        refine Ops.pv (pv_lss rfl rfl) rfl ?_
        refine Ops.nil ?_
        refine Ends.seq ?_
        refine Wp.seq ?_
        first | refine Wp.cond_dect rfl (fun h4 => ?_) (fun h4 => ?_) | refine Wp.cond_t rfl (fun h4 => ?_) (fun h4 => ?_)
        · refine Wp.skip ?_
          refine Ends.seq ?_
          refine Wp.seq ?_
          refine Wp.block ?_
          refine Wp.seq ?_
          refine Wp.region ?_
          obtain ⟨a, c, ea, hv, hline⟩ := hs.view (show i < 8 by omega) (levN L)
          refine Ops.pv (pv_move rfl) rfl ?_
          refine Ops.pv (pv_assign rfl) rfl ?_
          refine Ops.nil ?_
          refine Ends.seq ?_
          refine Wp.seq ?_
          refine Wp.region ?_
          refine Ops.pv (pv_move rfl) rfl ?_
          refine Ops.pv (pv_move rfl) rfl ?_
          first | refine Ops.pv (pv_nilCheck rfl) rfl ?_ | refine Ops.pv (pv_nilCheck_func rfl rfl) rfl ?_
          first | refine Ops.pv (pv_fieldAddr0 rfl rfl) rfl ?_ | refine Ops.pv (pv_fieldAddr rfl rfl) rfl ?_
          refine Ops.pv (pv_indexAddrA (i := i) rfl rfl rfl (by omega)) rfl ?_
          first | refine Ops.pv (pv_fieldAddr0 rfl rfl) rfl ?_ | refine Ops.pv (pv_fieldAddr rfl rfl) rfl ?_
          refine Ops.pv (pv_load rfl rfl hline) rfl ?_
          refine Ops.pv (pv_move rfl) rfl ?_
          refine Ops.ef rfl (ef_callr (tr_contains (segs h 8) a c (lvl L i) x hv (by have := hlv i; omega)) rfl rfl) ?_
          rintro _ _ ⟨rfl, rfl⟩
          refine Ops.nil ?_
          refine Ends.seq ?_
          first | refine Wp.cond_dect rfl (fun h5 => ?_) (fun h5 => ?_) | refine Wp.cond_t rfl (fun h5 => ?_) (fun h5 => ?_)
          · refine Wp.seq ?_
            refine Wp.region ?_
            refine Ops.pv (pv_assign rfl) rfl ?_
            refine Ops.nil ?_
            refine Ends.seq ?_
            refine Wp.ret ?_
            refine Ends.block_ret ?_
            refine Ends.then_ret ?_
            refine Ends.then_ret ?_
            refine Ends.block_ret ?_
            refine Ends.then_ret ?_
            obtain ⟨q1, q2⟩ := put_twice (L := L) (x := x) (k := k) (by simp_all) (by omega) (by omega) (inR_true hW (show i < 8 by omega) (by assumption))
            exact Ends.ret (res1 rfl rfl) ⟨by rw [q1], by rw [q2]; exact ⟨vs, h, hs, rfl⟩⟩
          · refine Wp.skip ?_
            refine Ends.block_normal ?_
            refine Ends.seq ?_
            refine Wp.region ?_
            first | refine Ops.pv (pv_add rfl rfl (w64 (by omega) (by omega))) rfl ?_ | refine Ops.pv (pv_add rfl rfl rfl) rfl ?_
            refine Ops.pv (pv_move rfl) rfl ?_
            refine Ops.nil ?_
            refine Ends.goes ?_
            refine Goes.back (hK (i + 1) ⟨by omega, fun j hj => ?_⟩ (by omega)) ⟨rfl, rfl, rfl, rfl, trivial⟩
            rcases Nat.lt_succ_iff_lt_or_eq.1 hj with hj | rfl
            · exact hn j hj
            · assumption
        · refine Wp.exit ?_
          refine Ends.then_exit ?_
          refine Ends.then_exit ?_
          refine Ends.block_hit ?_
          refine Ends.seq ?_
          refine Wp.seq ?_
          refine Wp.region ?_
          obtain rfl : i = 8 := by omega
          obtain ⟨k, rfl⟩ : ∃ n : Nat, k = n := ⟨k.toNat, by omega⟩
          have hk8 : k < 8 := by omega
          have hr1 : rightM x = true := by simp_all
          obtain ⟨p1, p2, p3, p4⟩ := put_all hW hr1 hk8 hn
          refine Ops.openS h 8 k hk8 ?_
          refine Ops.pv (pv_move rfl) rfl ?_
          refine Ops.pv (pv_move rfl) rfl ?_
          first | refine Ops.pv (pv_nilCheck rfl) rfl ?_ | refine Ops.pv (pv_nilCheck_func rfl rfl) rfl ?_
          first | refine Ops.pv (pv_fieldAddr0 rfl rfl) rfl ?_ | refine Ops.pv (pv_fieldAddr rfl rfl) rfl ?_
          refine Ops.pv (pv_indexAddrA (i := k) rfl rfl rfl hk8) rfl ?_
          refine Ops.pv (pv_move rfl) rfl ?_
          refine Ops.ef rfl (ef_call (tr_lpushG rb (0 + k * 1) 73 (rdyC vs (levN L)) _ (h k) (lvl L k) x (hs k hk8) (by have := hlv k; omega) (rdy_line hk8)) rfl rfl) ?_
          rintro _ _ ⟨_, _, ⟨rfl, v1, H1, hs1, rfl⟩, rfl, rfl⟩
          refine Ops.app ?_
          rw [rdy_set hk8]
          obtain ⟨a1, c1, rfl⟩ := hs1.form
          refine Ops.pv (pv_assign rfl) rfl ?_
          refine Ops.nil ?_
          refine Ends.seq ?_
          refine Wp.seq ?_
          refine Wp.region ?_
          refine Ops.pv (pv_move rfl) rfl ?_
          refine Ops.pv (pv_move rfl) rfl ?_
          refine Ops.ef rfl (ef_call (tr_note rb (fset vs k (.slice a1 (pushL (lvl L k) x).length c1)) (has L) k hk8 a1 _ c1 (fset_same _ _ _)) rfl rfl) ?_
          rintro _ _ ⟨_, _, ⟨rfl, rfl⟩, rfl, rfl⟩
          refine Ops.app ?_
          rw [p4]
          refine Ops.closeS h 8 k H1 hk8 ?_
          refine Ops.nil ?_
          refine Ends.seq ?_
          refine Wp.seq ?_
          refine Wp.region ?_
          refine Ops.pv (pv_move rfl) rfl ?_
          refine Ops.pv (pv_assign rfl) rfl ?_
          refine Ops.nil ?_
          refine Ends.seq ?_
          refine Wp.ret ?_
          exact Ends.ret (L' := (rb, .cells (rdyC (fset vs k (.slice a1 (pushL (lvl L k) x).length c1)) (levN (putR L x k))).toArray 73) :: segs (fset h k H1) 8) (res1 rfl rfl) ⟨by rw [p1], _, _, hs.set hs1 p2 p3, rfl⟩

theorem tr_rdyDrop (rb : Nat) (H : Hp) (L : Ones) (hH : RdyH L rb H) (hW : RdyW L) (hl : L.length ≤ 2 ^ 20) (x : Int) : Tr Try.prog 32 [.pointer (some ⟨rb, 0, none⟩), .int .i64 x] (H) (fun u L' => u = .bool (inR L x) ∧ RdyH (dropR L x) rb L') := by
  obtain ⟨vs0, h0, hs0, rfl⟩ := hH
  have hlv : ∀ k : Int, (lvl L k).length ≤ 2 ^ 20 := fun k => Nat.le_trans (lvl_len L k) hl
  refine Tr.enter Try.func32 rfl Try.ntmps32 rfl (fun W F => ?_)
  refine Wp.app ?_
  refine Wp.seq ?_
  refine Wp.region ?_
  refine Ops.pv (pv_assign rfl) rfl ?_
  refine Ops.nil ?_
  refine Ends.seq ?_
  refine Wp.seq ?_
  refine Wp.seq ?_
  refine Wp.region ?_
  refine Ops.pv (pv_move rfl) rfl ?_
  refine Ops.nil ?_
  refine Ends.seq ?_
  refine Wp.block ?_
  refine Wp.loopK (σ := Nat × (Nat → Value) × (Nat → Hp)) [(0, _), (1, _)] (fun s => [(6, .int .i64 s.1)]) (fun s => (rb, .cells (rdyC s.2.1 (levN L)).toArray 73) :: (segs s.2.2 8 ++ F)) (fun s => s.1 ≤ 8 ∧ RdyS (fun k => lvl L k) s.2.1 s.2.2 ∧ ∀ j : Nat, j < s.1 → ¬ 0 ≤ idxM (lvl L j) x) (fun s => 8 - s.1) (0, vs0, h0) ⟨Nat.zero_le _, hs0, fun j hj => absurd hj (Nat.not_lt_zero j)⟩ ⟨rfl, rfl, trivial⟩ ⟨rfl, trivial⟩ (by intro w ho; (try dsimp only [List.nil_append, List.cons_append]); exact Drop.own ho) ?_
  rintro ⟨i, vs, h⟩ KK ⟨hi, hs, hn⟩ hK
  dsimp only [List.cons_append, List.nil_append] at hK ⊢
  dsimp only at hi hs hn ⊢
  refine Wp.seq ?_
  refine Wp.region ?_
  refine Ops.pv (pv_lss rfl rfl) rfl ?_
  refine Ops.nil ?_
  refine Ends.seq ?_
  refine Wp.seq ?_
  first | refine Wp.cond_dect rfl (fun h1 => ?_) (fun h1 => ?_) | refine Wp.cond_t rfl (fun h1 => ?_) (fun h1 => ?_)
  · refine Wp.skip ?_
    refine Ends.seq ?_
    refine Wp.seq ?_
    refine Wp.block ?_
    refine Wp.seq ?_
    refine Wp.region ?_
    refine Ops.pv (pv_move rfl) rfl ?_
    refine Ops.pv (pv_assign rfl) rfl ?_
    refine Ops.nil ?_
    refine Ends.seq ?_
    refine Wp.seq ?_
    refine Wp.region ?_
    have hi8 : i < 8 := by omega
    refine Ops.openS h 8 i hi8 ?_
    refine Ops.pv (pv_move rfl) rfl ?_
    refine Ops.pv (pv_move rfl) rfl ?_
    first | refine Ops.pv (pv_nilCheck rfl) rfl ?_ | refine Ops.pv (pv_nilCheck_func rfl rfl) rfl ?_
    first | refine Ops.pv (pv_fieldAddr0 rfl rfl) rfl ?_ | refine Ops.pv (pv_fieldAddr rfl rfl) rfl ?_
    refine Ops.pv (pv_indexAddrA rfl rfl rfl (by omega)) rfl ?_
    refine Ops.pv (pv_move rfl) rfl ?_
    refine Ops.ef rfl (ef_call (tr_lremoveG rb (0 + i * 1) 73 (rdyC vs (levN L)) _ (h i) (lvl L i) x (hs i hi8) (by have := hlv i; omega) (rdy_line hi8)) rfl rfl) ?_
    rintro _ _ ⟨_, _, ⟨rfl, v1, H1, hs1, rfl⟩, rfl, rfl⟩
    refine Ops.app ?_
    rw [rdy_set hi8]
    obtain ⟨a1, c1, rfl⟩ := hs1.form
    refine Ops.closeS h 8 i H1 hi8 ?_
    refine Ops.nil ?_
    refine Ends.seq ?_
    refine Wp.cond_t rfl (fun h2 => ?_) (fun h2 => ?_)
    · have hix : 0 ≤ idxM (lvl L i) x := by simpa [remB] using h2
      obtain ⟨d1, d2, d3, d4⟩ := drop_all hW hi8 hix
      refine Wp.seq ?_
      refine Wp.region ?_
      refine Ops.pv (pv_move rfl) rfl ?_
      refine Ops.pv (pv_move rfl) rfl ?_
      refine Ops.ef rfl (ef_call (tr_note rb (fset vs i (.slice a1 (remL (lvl L i) x).length c1)) (has L) i hi8 a1 _ c1 (fset_same _ _ _)) rfl rfl) ?_
      rintro _ _ ⟨_, _, ⟨rfl, rfl⟩, rfl, rfl⟩
      refine Ops.app ?_
      rw [d4]
      refine Ops.nil ?_
      refine Ends.seq ?_
      refine Wp.seq ?_
      refine Wp.region ?_
      refine Ops.pv (pv_assign rfl) rfl ?_
      refine Ops.nil ?_
      refine Ends.seq ?_
      refine Wp.ret ?_
      refine Ends.block_ret ?_
      refine Ends.then_ret ?_
      refine Ends.then_ret ?_
      refine Ends.block_ret ?_
      refine Ends.then_ret ?_
      exact Ends.ret (L' := (rb, .cells (rdyC (fset vs i (.slice a1 (remL (lvl L i) x).length c1)) (levN (dropR L x))).toArray 73) :: segs (fset h i H1) 8) (res1 rfl rfl) ⟨by rw [d1], _, _, hs.set hs1 d2 d3, rfl⟩
    · refine Wp.skip ?_
      refine Ends.block_normal ?_
      refine Ends.seq ?_
      refine Wp.region ?_
      first | refine Ops.pv (pv_add rfl rfl (w64 (by omega) (by omega))) rfl ?_ | refine Ops.pv (pv_add rfl rfl rfl) rfl ?_
      refine Ops.pv (pv_move rfl) rfl ?_
      refine Ops.nil ?_
      refine Ends.goes ?_
      refine Goes.back (hK (i + 1, fset vs i (.slice a1 (remL (lvl L i) x).length c1), fset h i H1) ⟨by dsimp only; omega, hs.set hs1 (rem_same h2) (fun _ _ => rfl), fun j hj => ?_⟩ (by dsimp only; omega)) ⟨rfl, rfl, rfl, trivial⟩
      rcases Nat.lt_succ_iff_lt_or_eq.1 hj with hj | rfl
      · exact hn j hj
      · simpa [remB] using h2
  · refine Wp.exit ?_
    refine Ends.then_exit ?_
    refine Ends.then_exit ?_
    refine Ends.block_hit ?_
    refine Ends.seq ?_
    refine Wp.seq ?_
    refine Wp.region ?_
    refine Ops.pv (pv_assign rfl) rfl ?_
    refine Ops.nil ?_
    refine Ends.seq ?_
    refine Wp.ret ?_
    obtain rfl : i = 8 := by omega
    have hf := inR_false hW hn
    exact Ends.ret (res1 rfl rfl) ⟨by rw [hf], by rw [drop_none hf]; exact ⟨vs, h, hs, rfl⟩⟩

theorem tr_drPut (qb : Nat) (H : Hp) (L : Ones) (hH : DRdyH L qb H) (hl : L.length ≤ 2 ^ 20) (x k : Int) : Tr Try.prog 34 [.pointer (some ⟨qb, 0, none⟩), .int .i64 x, .int .i64 k] (H) (fun u L' => u = .int .i64 (putE L x k) ∧ DRdyH (putR L x k) qb L') := by
  obtain ⟨v, K, hs, rfl⟩ := hH
  obtain ⟨a, c, rfl⟩ := hs.form
  have hv := hs.view
  refine Tr.enter Try.func34 rfl Try.ntmps34 rfl (fun W F => ?_)
  refine Wp.app ?_
  refine Wp.seq ?_
  refine Wp.region ?_
  refine Ops.pv (pv_assign rfl) rfl ?_
  refine Ops.nil ?_
  refine Ends.seq ?_
  refine Wp.seq ?_
  refine Wp.seq ?_
  refine Wp.region ?_
  refine Ops.pv (pv_move rfl) rfl ?_
  refine Ops.pv (pv_lss rfl rfl) rfl ?_
  refine Ops.pv (pv_move rfl) rfl ?_
  first | refine Ops.split (t := 10) rfl (fun h1 => ?_) (fun h1 => ?_) | refine Ops.splitb (t := 10) rfl (fun h1 => ?_) (fun h1 => ?_)
  · refine Ops.skipg ⟨_, _, rfl, rfl, rfl⟩ rfl ?_
    refine Ops.skipg ⟨_, _, rfl, rfl, rfl⟩ rfl ?_
    refine Ops.pv (pv_pick_true rfl rfl) rfl ?_
    refine Ops.pv (pv_move rfl) rfl ?_
    refine Ops.skipg ⟨_, _, rfl, rfl, rfl⟩ rfl ?_
    refine Ops.skipg ⟨_, _, rfl, rfl, rfl⟩ rfl ?_
    refine Ops.pv (pv_pick_true rfl rfl) rfl ?_
    refine Ops.pv (pv_move rfl) rfl ?_
    refine Ops.skipg ⟨_, _, rfl, rfl, rfl⟩ rfl ?_
    refine Ops.skipg ⟨_, _, rfl, rfl, rfl⟩ rfl ?_
    refine Ops.pv (pv_pick_true rfl rfl) rfl ?_
    refine Ops.nil ?_
    refine Ends.seq ?_
    refine Wp.cond_true rfl ?_
    refine Wp.seq ?_
    refine Wp.region ?_
    refine Ops.pv (pv_assign rfl) rfl ?_
    refine Ops.nil ?_
    refine Ends.seq ?_
    refine Wp.ret ?_
    refine Ends.then_ret ?_
    exact Ends.ret (res1 rfl rfl) ⟨by rw [(put_out (by simp [rightM]; omega)).1], by rw [(put_out (L := L) (by simp [rightM]; omega)).2]; exact ⟨_, K, hs, rfl⟩⟩
  · refine Ops.pvg ⟨_, _, rfl, rfl, rfl⟩ (pv_move rfl) rfl ?_
    refine Ops.pvg ⟨_, _, rfl, rfl, rfl⟩ (pv_gtr rfl rfl) rfl ?_
    refine Ops.pv (pv_pick_false rfl rfl) rfl ?_
    refine Ops.pv (pv_move rfl) rfl ?_
    first | refine Ops.split (t := 14) rfl (fun h2 => ?_) (fun h2 => ?_) | refine Ops.splitb (t := 14) rfl (fun h2 => ?_) (fun h2 => ?_)
    · refine Ops.skipg ⟨_, _, rfl, rfl, rfl⟩ rfl ?_
      refine Ops.skipg ⟨_, _, rfl, rfl, rfl⟩ rfl ?_
      refine Ops.pv (pv_pick_true rfl rfl) rfl ?_
      refine Ops.pv (pv_move rfl) rfl ?_
      refine Ops.skipg ⟨_, _, rfl, rfl, rfl⟩ rfl ?_
      refine Ops.skipg ⟨_, _, rfl, rfl, rfl⟩ rfl ?_
      refine Ops.pv (pv_pick_true rfl rfl) rfl ?_
      refine Ops.nil ?_
      refine Ends.seq ?_
      refine Wp.cond_true rfl ?_
      refine Wp.seq ?_
      refine Wp.region ?_
      refine Ops.pv (pv_assign rfl) rfl ?_
      refine Ops.nil ?_
      refine Ends.seq ?_
      refine Wp.ret ?_
      refine Ends.then_ret ?_
      exact Ends.ret (res1 rfl rfl) ⟨by rw [(put_out (by simp [rightM]; omega)).1], by rw [(put_out (L := L) (by simp [rightM]; omega)).2]; exact ⟨_, K, hs, rfl⟩⟩
    · refine Ops.pvg ⟨_, _, rfl, rfl, rfl⟩ (pv_move rfl) rfl ?_
      refine Ops.pvg ⟨_, _, rfl, rfl, rfl⟩ (pv_lss rfl rfl) rfl ?_
      refine Ops.pv (pv_pick_false rfl rfl) rfl ?_
      refine Ops.pv (pv_move rfl) rfl ?_
      first | refine Ops.split (t := 18) rfl (fun h3 => ?_) (fun h3 => ?_) | refine Ops.splitb (t := 18) rfl (fun h3 => ?_) (fun h3 => ?_)
      · refine Ops.skipg ⟨_, _, rfl, rfl, rfl⟩ rfl ?_
        refine Ops.skipg ⟨_, _, rfl, rfl, rfl⟩ rfl ?_
        refine Ops.pv (pv_pick_true rfl rfl) rfl ?_
        refine Ops.nil ?_
        refine Ends.seq ?_
        refine Wp.cond_true rfl ?_
        refine Wp.seq ?_
        refine Wp.region ?_
        refine Ops.pv (pv_assign rfl) rfl ?_
        refine Ops.nil ?_
        refine Ends.seq ?_
        refine Wp.ret ?_
        refine Ends.then_ret ?_
        exact Ends.ret (res1 rfl rfl) ⟨by rw [(put_out (by simp [rightM]; omega)).1], by rw [(put_out (L := L) (by simp [rightM]; omega)).2]; exact ⟨_, K, hs, rfl⟩⟩
      · refine Ops.pvg ⟨_, _, rfl, rfl, rfl⟩ (pv_move rfl) rfl ?_
        refine Ops.pvg ⟨_, _, rfl, rfl, rfl⟩ (pv_gtr rfl rfl) rfl ?_
        refine Ops.pv (pv_pick_false rfl rfl) rfl ?_
        refine Ops.nil ?_
        refine Ends.seq ?_
        first | refine Wp.cond_dect rfl (fun h4 => ?_) (fun h4 => ?_) | refine Wp.cond_t rfl (fun h4 => ?_) (fun h4 => ?_)
        · refine Wp.seq ?_
          refine Wp.region ?_
          refine Ops.pv (pv_assign rfl) rfl ?_
          refine Ops.nil ?_
          refine Ends.seq ?_
          refine Wp.ret ?_
          refine Ends.then_ret ?_
          exact Ends.ret (res1 rfl rfl) ⟨by rw [(put_out (by simp [rightM]; omega)).1], by rw [(put_out (L := L) (by simp [rightM]; omega)).2]; exact ⟨_, K, hs, rfl⟩⟩
        · refine Wp.skip ?_
          refine Ends.seq ?_
          refine Wp.seq ?_
          refine Wp.seq ?_
          refine Wp.region ?_
          refine Ops.pv (pv_assign rfl) rfl ?_
          refine Ops.nil ?_
          refine Ends.seq ?_
          refine Wp.block ?_
          refine Wp.loopK (σ := Nat) [(0, _), (1, _), (2, _)] (fun s => [(7, .int .i64 s)]) (fun s => (qb, .cells [.slice a L.length c].toArray 68) :: (K ++ F)) (fun s => s ≤ L.length ∧ ∀ j : Nat, j < s → ∀ k', L[j]? ≠ some (x, k')) (fun s => L.length - s) 0 ⟨Nat.zero_le _, fun j hj => absurd hj (Nat.not_lt_zero j)⟩ ⟨rfl, rfl, rfl, trivial⟩ ⟨rfl, trivial⟩ (by intro w ho; (try dsimp only [List.nil_append, List.cons_append]); exact Drop.own ho) ?_
          rintro i KK ⟨hi, hn⟩ hK
          dsimp only [List.cons_append, List.nil_append] at hK ⊢
          refine Wp.seq ?_
          refine Wp.seq ?_
          refine Wp.region ?_
          refine Ops.pv (pv_move rfl) rfl ?_
          refine Ops.pv (pv_move rfl) rfl ?_
          first | refine Ops.pv (pv_nilCheck rfl) rfl ?_ | refine Ops.pv (pv_nilCheck_func rfl rfl) rfl ?_
          first | refine Ops.pv (pv_fieldAddr0 rfl rfl) rfl ?_ | refine Ops.pv (pv_fieldAddr rfl rfl) rfl ?_
          first | refine Ops.pv (pv_load rfl rfl rfl) rfl ?_ | refine Ops.pv (pv_load rfl rfl (by assumption)) rfl ?_
          refine Ops.pv (pv_len_slice (T := 66) rfl rfl) rfl ?_
          refine Ops.pv (pv_lss rfl rfl) rfl ?_
          refine Ops.nil ?_
          refine Ends.seq ?_
          first | refine Wp.cond_dect rfl (fun h5 => ?_) (fun h5 => ?_) | refine Wp.cond_t rfl (fun h5 => ?_) (fun h5 => ?_)
          · refine Wp.skip ?_
            refine Ends.seq ?_
            refine Wp.seq ?_
            refine Wp.block ?_
            refine Wp.seq ?_
            refine Wp.region ?_
            obtain ⟨b, o, cap, cc, T, f, hv1, hbv, hr⟩ := hv.open (by omega)
            cases hv1
            obtain ⟨e, he⟩ : ∃ e, L[i]? = some e := ⟨_, List.getElem?_eq_getElem (by omega)⟩
            obtain ⟨q0, q1⟩ := one_read hr he
            refine Ops.pv (pv_move rfl) rfl ?_
            first | refine Ops.pv (pv_nilCheck rfl) rfl ?_ | refine Ops.pv (pv_nilCheck_func rfl rfl) rfl ?_
            first | refine Ops.pv (pv_fieldAddr0 rfl rfl) rfl ?_ | refine Ops.pv (pv_fieldAddr rfl rfl) rfl ?_
            first | refine Ops.pv (pv_load rfl rfl rfl) rfl ?_ | refine Ops.pv (pv_load rfl rfl (by assumption)) rfl ?_
            refine Ops.pv (pv_move rfl) rfl ?_
            refine Ops.pv (pv_indexAddr rfl rfl rfl (by omega)) rfl ?_
            first | refine Ops.pv (pv_fieldAddr0 rfl rfl) rfl ?_ | refine Ops.pv (pv_fieldAddr rfl rfl) rfl ?_
            first | refine Ops.pv (pv_load rfl rfl rfl) rfl ?_ | refine Ops.pv (pv_load rfl rfl (by assumption)) rfl ?_
            refine Ops.pv (pv_move rfl) rfl ?_
            refine Ops.pv (pv_eql rfl rfl) rfl ?_
            refine Ops.nil ?_
            refine Ends.seq ?_
            first | refine Wp.cond_dect rfl (fun h6 => ?_) (fun h6 => ?_) | refine Wp.cond_t rfl (fun h6 => ?_) (fun h6 => ?_)
            · refine Wp.seq ?_
              refine Wp.region ?_
              refine Ops.pv (pv_assign rfl) rfl ?_
              refine Ops.nil ?_
              refine Ends.seq ?_
              refine Wp.ret ?_
              refine Ends.block_ret ?_
              refine Ends.then_ret ?_
              refine Ends.then_ret ?_
              refine Ends.block_ret ?_
              refine Ends.then_ret ?_
              obtain ⟨q1, q2⟩ := put_twice (L := L) (x := x) (k := k) (by simp [rightM]; omega) (by omega) (by omega) (inR_hit (i := i) (k := e.2) (by rw [he]; exact congrArg some (pair_of (by assumption))))
              exact Ends.ret (res1 rfl rfl) ⟨by rw [q1], by rw [q2]; exact ⟨_, K, hs, rfl⟩⟩
            · refine Wp.skip ?_
              refine Ends.block_normal ?_
              refine Ends.seq ?_
              refine Wp.region ?_
              refine Ops.pv (pv_move rfl) rfl ?_
              first | refine Ops.pv (pv_add rfl rfl (w64 (by omega) (by omega))) rfl ?_ | refine Ops.pv (pv_add rfl rfl rfl) rfl ?_
              refine Ops.pv (pv_assign rfl) rfl ?_
              refine Ops.nil ?_
              refine Ends.goes ?_
              refine Goes.back (hK (i + 1) ⟨by omega, fun j hj k' => ?_⟩ (by omega)) ⟨rfl, rfl, rfl, rfl, trivial⟩
              rcases Nat.lt_succ_iff_lt_or_eq.1 hj with hj | rfl
              · exact hn j hj k'
              · rw [he]; intro e1; cases e1; simp_all
          · refine Wp.exit ?_
            refine Ends.then_exit ?_
            refine Ends.then_exit ?_
            refine Ends.block_hit ?_
            refine Ends.seq ?_
            refine Wp.seq ?_
            refine Wp.region ?_
            have hf : inR L x = false := inR_miss (fun j hj k => hn j (by omega) k)
            obtain ⟨p1, p2⟩ := put_new (L := L) (x := x) (k := k) (by simp [rightM]; omega) (by omega) (by omega) hf
            refine Ops.pv (pv_move rfl) rfl ?_
            refine Ops.pv (pv_move rfl) rfl ?_
            first | refine Ops.pv (pv_nilCheck rfl) rfl ?_ | refine Ops.pv (pv_nilCheck_func rfl rfl) rfl ?_
            first | refine Ops.pv (pv_fieldAddr0 rfl rfl) rfl ?_ | refine Ops.pv (pv_fieldAddr rfl rfl) rfl ?_
            first | refine Ops.pv (pv_load rfl rfl rfl) rfl ?_ | refine Ops.pv (pv_load rfl rfl (by assumption)) rfl ?_
            refine Ops.pv (pv_move rfl) rfl ?_
            refine Ops.pv (pv_move rfl) rfl ?_
            refine Ops.pv (pv_build rfl) rfl ?_
            refine Ops.ef rfl (ef_buildSlice1 (k := 2) rfl rfl rfl rfl rfl) ?_
            rintro _ _ ⟨b1, rfl, rfl⟩
            refine Ops.ef rfl (ef_append (H := K) (xs := [.int .i64 x, .int .i64 k]) rfl hs rfl ⟨rfl, rfl, trivial⟩ rfl rfl rfl (by omega) (by omega) rfl rfl) ?_
            rintro _ _ ⟨v1, H1, hs1, rfl, rfl⟩
            refine Ops.app ?_
            have ho1 := hs1.one
            have ho2 := hs1.cells1
            first | refine Ops.pv (pv_nilCheck rfl) rfl ?_ | refine Ops.pv (pv_nilCheck_func rfl rfl) rfl ?_
            first | refine Ops.pv (pv_fieldAddr0 rfl rfl) rfl ?_ | refine Ops.pv (pv_fieldAddr rfl rfl) rfl ?_
            refine Ops.ef rfl (ef_store1 rfl rfl (by first | rfl | assumption) (by first | rfl | assumption)) ?_
            rintro _ _ ⟨rfl, rfl⟩
            refine Ops.nil ?_
            refine Ends.seq ?_
            refine Wp.seq ?_
            refine Wp.region ?_
            refine Ops.pv (pv_assign rfl) rfl ?_
            refine Ops.nil ?_
            refine Ends.seq ?_
            refine Wp.ret ?_
            rw [show ([.int .i64 x, .int .i64 k] : List Value) = cel oneC [(x, k)] from rfl, ← cel_app, show L.length + 1 = (L ++ [(x, k)]).length by simp, ← p2] at hs1
            exact Ends.ret (L' := (qb, .cells [v1].toArray 68) :: H1) (res1 rfl rfl) ⟨by rw [p1], v1, H1, hs1, rfl⟩

theorem tr_drList (qb : Nat) (H : Hp) (L : Ones) (hH : DRdyH L qb H) (hl : L.length ≤ 2 ^ 20) (k : Int) : Tr Try.prog 44 [.pointer (some ⟨qb, 0, none⟩), .int .i64 k] (H) (fun u L' => ∃ H', Slc 3 1 u (lvl L k).length (intsC (lvl L k)) H' ∧ L' = H' ++ H) := by
  obtain ⟨v, K, hs, rfl⟩ := hH
  obtain ⟨a, c, rfl⟩ := hs.form
  have hv := hs.view
  refine Tr.enter Try.func44 rfl Try.ntmps44 rfl (fun W F => ?_)
  refine Wp.app ?_
  refine Wp.seq ?_
  refine Wp.region ?_
  refine Ops.pv (pv_assign rfl) rfl ?_
  refine Ops.nil ?_
  refine Ends.seq ?_
  refine Wp.seq ?_
  refine Wp.region ?_
  refine Ops.pv (pv_assign rfl) rfl ?_
  refine Ops.nil ?_
  refine Ends.seq ?_
  refine Wp.seq ?_
  refine Wp.seq ?_
  refine Wp.region ?_
  refine Ops.pv (pv_assign rfl) rfl ?_
  refine Ops.nil ?_
  refine Ends.seq ?_
  refine Wp.block ?_
  refine Wp.loopK (σ := Nat × Value × Hp) [(0, _), (1, _)] (fun s => [(5, s.2.1), (6, .int .i64 s.1)]) (fun s => (qb, .cells [.slice a L.length c].toArray 68) :: (s.2.2 ++ (K ++ F))) (fun s => s.1 ≤ L.length ∧ Slc 3 1 s.2.1 (lvl (L.take s.1) k).length (intsC (lvl (L.take s.1) k)) s.2.2) (fun s => L.length - s.1) (0, .slice none 0 0, []) ⟨Nat.zero_le _, Slc.nil _ _⟩ ⟨rfl, rfl, trivial⟩ ⟨rfl, rfl, trivial⟩ (by intro w ho; (try dsimp only [List.nil_append, List.cons_append]); exact Drop.own ho) ?_
  rintro ⟨i, w, H⟩ KK ⟨hi, hs2⟩ hK
  dsimp only [List.cons_append, List.nil_append] at hK ⊢
  dsimp only at hi hs2 ⊢
  refine Wp.seq ?_
  refine Wp.seq ?_
  refine Wp.region ?_
  refine Ops.pv (pv_move rfl) rfl ?_
  refine Ops.pv (pv_move rfl) rfl ?_
  first | refine Ops.pv (pv_nilCheck rfl) rfl ?_ | refine Ops.pv (pv_nilCheck_func rfl rfl) rfl ?_
  first | refine Ops.pv (pv_fieldAddr0 rfl rfl) rfl ?_ | refine Ops.pv (pv_fieldAddr rfl rfl) rfl ?_
  first | refine Ops.pv (pv_load rfl rfl rfl) rfl ?_ | refine Ops.pv (pv_load rfl rfl (by assumption)) rfl ?_
  refine Ops.pv (pv_len_slice (T := 66) rfl rfl) rfl ?_
  refine Ops.pv (pv_lss rfl rfl) rfl ?_
  refine Ops.nil ?_
  refine Ends.seq ?_
  first | refine Wp.cond_dect rfl (fun h1 => ?_) (fun h1 => ?_) | refine Wp.cond_t rfl (fun h1 => ?_) (fun h1 => ?_)
  · refine Wp.skip ?_
    refine Ends.seq ?_
    refine Wp.seq ?_
    refine Wp.block ?_
    refine Wp.seq ?_
    refine Wp.region ?_
    obtain ⟨b, o, cap, cc, T, f, hv1, hbv, hr⟩ := hv.open (by omega)
    cases hv1
    obtain ⟨e, he⟩ : ∃ e, L[i]? = some e := ⟨_, List.getElem?_eq_getElem (by omega)⟩
    obtain ⟨q0, q1⟩ := one_read hr he
    have htk := lvl_take he k
    have hlt := lvl_len (L.take i) k
    have hlt2 : (L.take i).length ≤ L.length := by simp; omega
    refine Ops.pv (pv_move rfl) rfl ?_
    first | refine Ops.pv (pv_nilCheck rfl) rfl ?_ | refine Ops.pv (pv_nilCheck_func rfl rfl) rfl ?_
    first | refine Ops.pv (pv_fieldAddr0 rfl rfl) rfl ?_ | refine Ops.pv (pv_fieldAddr rfl rfl) rfl ?_
    first | refine Ops.pv (pv_load rfl rfl rfl) rfl ?_ | refine Ops.pv (pv_load rfl rfl (by assumption)) rfl ?_
    refine Ops.pv (pv_move rfl) rfl ?_
    refine Ops.pv (pv_indexAddr rfl rfl rfl (by omega)) rfl ?_
    first | refine Ops.pv (pv_fieldAddr0 rfl rfl) rfl ?_ | refine Ops.pv (pv_fieldAddr rfl rfl) rfl ?_
    first | refine Ops.pv (pv_load rfl rfl rfl) rfl ?_ | refine Ops.pv (pv_load rfl rfl (by assumption)) rfl ?_
    refine Ops.pv (pv_move rfl) rfl ?_
    refine Ops.pv (pv_eql rfl rfl) rfl ?_
    refine Ops.nil ?_
    refine Ends.seq ?_
    first | refine Wp.cond_dect rfl (fun h2 => ?_) (fun h2 => ?_) | refine Wp.cond_t rfl (fun h2 => ?_) (fun h2 => ?_)
    · refine Wp.region ?_
      refine Ops.pv (pv_move rfl) rfl ?_
      refine Ops.pv (pv_move rfl) rfl ?_
      first | refine Ops.pv (pv_nilCheck rfl) rfl ?_ | refine Ops.pv (pv_nilCheck_func rfl rfl) rfl ?_
      first | refine Ops.pv (pv_fieldAddr0 rfl rfl) rfl ?_ | refine Ops.pv (pv_fieldAddr rfl rfl) rfl ?_
      first | refine Ops.pv (pv_load rfl rfl rfl) rfl ?_ | refine Ops.pv (pv_load rfl rfl (by assumption)) rfl ?_
      refine Ops.pv (pv_move rfl) rfl ?_
      refine Ops.pv (pv_indexAddr rfl rfl rfl (by omega)) rfl ?_
      first | refine Ops.pv (pv_fieldAddr0 rfl rfl) rfl ?_ | refine Ops.pv (pv_fieldAddr rfl rfl) rfl ?_
      first | refine Ops.pv (pv_load rfl rfl rfl) rfl ?_ | refine Ops.pv (pv_load rfl rfl (by assumption)) rfl ?_
      refine Ops.ef rfl (ef_buildSlice1 (k := 1) rfl rfl rfl rfl rfl) ?_
      rintro _ _ ⟨b1, rfl, rfl⟩
      refine Ops.ef rfl (ef_append (H := H) (xs := [.int .i64 e.1]) rfl hs2 rfl ⟨rfl, trivial⟩ rfl rfl rfl (by omega) (by omega) rfl rfl) ?_
      rintro _ _ ⟨v1, H1, hs1, rfl, rfl⟩
      refine Ops.app ?_
      skip
      refine Ops.pv (pv_assign rfl) rfl ?_
      refine Ops.nil ?_
      refine Ends.block_normal ?_
      refine Ends.seq ?_
      refine Wp.region ?_
      refine Ops.pv (pv_move rfl) rfl ?_
      first | refine Ops.pv (pv_add rfl rfl (w64 (by omega) (by omega))) rfl ?_ | refine Ops.pv (pv_add rfl rfl rfl) rfl ?_
      refine Ops.pv (pv_assign rfl) rfl ?_
      refine Ops.nil ?_
      refine Ends.goes ?_
      refine Goes.back (hK (i + 1, v1, H1) ⟨by dsimp only; omega, ?_⟩ (by dsimp only; omega)) ⟨rfl, rfl, rfl, rfl, trivial⟩
      dsimp only; rw [htk, if_pos (by assumption), List.length_append, intsC_app]; exact hs1
    · refine Wp.skip ?_
      refine Ends.block_normal ?_
      refine Ends.seq ?_
      refine Wp.region ?_
      refine Ops.pv (pv_move rfl) rfl ?_
      first | refine Ops.pv (pv_add rfl rfl (w64 (by omega) (by omega))) rfl ?_ | refine Ops.pv (pv_add rfl rfl rfl) rfl ?_
      refine Ops.pv (pv_assign rfl) rfl ?_
      refine Ops.nil ?_
      refine Ends.goes ?_
      refine Goes.back (hK (i + 1, w, H) ⟨by dsimp only; omega, ?_⟩ (by dsimp only; omega)) ⟨rfl, rfl, rfl, rfl, trivial⟩
      dsimp only; rw [htk, if_neg (by assumption), List.append_nil]; exact hs2
  · refine Wp.exit ?_
    refine Ends.then_exit ?_
    refine Ends.then_exit ?_
    refine Ends.block_hit ?_
    refine Ends.seq ?_
    refine Wp.seq ?_
    refine Wp.region ?_
    refine Ops.pv (pv_move rfl) rfl ?_
    refine Ops.pv (pv_assign rfl) rfl ?_
    refine Ops.nil ?_
    refine Ends.seq ?_
    refine Wp.ret ?_
    obtain rfl : i = L.length := by omega
    rw [List.take_length] at hs2
    exact Ends.ret (L' := H ++ ((qb, .cells [.slice a L.length c].toArray 68) :: K)) (res1 rfl rfl) ⟨H, hs2, rfl⟩

theorem tr_drNext (qb : Nat) (H : Hp) (L : Ones) (hH : DRdyH L qb H) (hl : L.length ≤ 2 ^ 20) : TrR Try.prog 36 [.pointer (some ⟨qb, 0, none⟩)] (H) (.tuple #[.int .i64 (nextV L), .bool (nextB L)]) := by
  obtain ⟨v, K, hs, rfl⟩ := hH
  obtain ⟨a, c, rfl⟩ := hs.form
  have hv := hs.view
  refine Tr.enter Try.func36 rfl Try.ntmps36 rfl (fun W F => ?_)
  refine Wp.app ?_
  refine Wp.seq ?_
  refine Wp.region ?_
  refine Ops.pv (pv_assign rfl) rfl ?_
  refine Ops.pv (pv_assign rfl) rfl ?_
  refine Ops.nil ?_
  refine Ends.seq ?_
  refine Wp.seq ?_
  refine Wp.seq ?_
  refine Wp.region ?_
  refine Ops.pv (pv_assign rfl) rfl ?_
  refine Ops.nil ?_
  refine Ends.seq ?_
  refine Wp.block ?_
  refine Wp.loopK (σ := Int) [(0, _)] (fun s => [(4, .int .i64 s)]) (fun s => (qb, .cells [.slice a L.length c].toArray 68) :: (K ++ F)) (fun s => -1 ≤ s ∧ s ≤ 7 ∧ hiM (has L) 8 = hiM (has L) (s + 1).toNat) (fun s => (s + 1).toNat) 7 ⟨by omega, by omega, rfl⟩ ⟨rfl, trivial⟩ ⟨rfl, trivial⟩ (by intro w ho; (try dsimp only [List.nil_append, List.cons_append]); exact Drop.own ho) ?_
  rintro i KK ⟨hi, hi7, hh⟩ hK
  dsimp only [List.cons_append, List.nil_append] at hK ⊢
  refine Wp.seq ?_
  refine Wp.seq ?_
  refine Wp.region ?_
  refine Ops.pv (pv_move rfl) rfl ?_
  refine Ops.pv (pv_geq rfl rfl) rfl ?_
  refine Ops.nil ?_
  refine Ends.seq ?_
  first | refine Wp.cond_dect rfl (fun h1 => ?_) (fun h1 => ?_) | refine Wp.cond_t rfl (fun h1 => ?_) (fun h1 => ?_)
  · obtain ⟨k, rfl⟩ : ∃ k : Nat, i = k := ⟨i.toNat, by omega⟩
    refine Wp.skip ?_
    refine Ends.seq ?_
    refine Wp.seq ?_
    refine Wp.block ?_
    refine Wp.seq ?_
    refine Wp.region ?_
    refine Ops.pv (pv_move rfl) rfl ?_
    refine Ops.pv (pv_move rfl) rfl ?_
    refine Ops.ef rfl (ef_call (tr_drList qb ((qb, .cells [.slice a L.length c].toArray 68) :: K) L ⟨_, K, hs, rfl⟩ hl k) rfl rfl) ?_
    rintro _ _ ⟨_, _, ⟨H1, hs1, rfl⟩, rfl, rfl⟩
    refine Ops.app ?_
    obtain ⟨p1, q1, rfl⟩ := hs1.form
    refine Ops.pv (pv_assign rfl) rfl ?_
    refine Ops.nil ?_
    refine Ends.seq ?_
    refine Wp.seq ?_
    refine Wp.region ?_
    refine Ops.pv (pv_move rfl) rfl ?_
    refine Ops.pv (pv_len_slice (T := 40) rfl rfl) rfl ?_
    refine Ops.pv (pv_gtr rfl rfl) rfl ?_
    refine Ops.nil ?_
    refine Ends.seq ?_
    first | refine Wp.cond_dect rfl (fun h2 => ?_) (fun h2 => ?_) | refine Wp.cond_t rfl (fun h2 => ?_) (fun h2 => ?_)
    · obtain ⟨y, t, hyt⟩ : ∃ y t, lvl L k = y :: t := by
          cases e : lvl L k with
          | nil => rw [e] at h2; simp at h2
          | cons y t => exact ⟨y, t, rfl⟩
      have hv9 := hs1.view
      rw [hyt] at hv9
      obtain ⟨b, o, cap, cc, T, f, hv1, hbv, hr⟩ := hv9.open (by simp)
      have hny := ints_nth (i := 0) hr rfl
      rw [hyt]
      cases hv1
      refine Wp.seq ?_
      refine Wp.region ?_
      refine Ops.pv (pv_move rfl) rfl ?_
      refine Ops.pv (pv_indexAddr (i := 0) rfl rfl rfl (by first | omega | (simp; done) | (simp; omega))) rfl ?_
      first | refine Ops.pv (pv_load rfl rfl rfl) rfl ?_ | refine Ops.pv (pv_load rfl rfl (by assumption)) rfl ?_
      refine Ops.pv (pv_assign rfl) rfl ?_
      refine Ops.pv (pv_assign rfl) rfl ?_
      refine Ops.nil ?_
      refine Ends.seq ?_
      refine Wp.ret ?_
      refine Ends.block_ret ?_
      refine Ends.then_ret ?_
      refine Ends.then_ret ?_
      refine Ends.block_ret ?_
      refine Ends.then_ret ?_
      have hx : nextI L = k := by
        unfold nextI
        rw [hh, show ((k : Int) + 1).toNat = k + 1 by omega]
        simp only [hiM]; rw [if_pos (by unfold has; rw [hyt]; rfl)]
      exact Ends.ret (res2 rfl rfl rfl) ⟨by rw [nextV, nextB, hx, if_neg (by omega), decide_eq_true (by omega), hyt]; rfl, rfl⟩
    · refine Wp.skip ?_
      refine Ends.block_normal ?_
      refine Ends.seq ?_
      refine Wp.region ?_
      refine Ops.pv (pv_move rfl) rfl ?_
      first | refine Ops.pv (pv_sub rfl rfl (w64 (by omega) (by omega))) rfl ?_ | refine Ops.pv (pv_sub rfl rfl rfl) rfl ?_
      refine Ops.pv (pv_assign rfl) rfl ?_
      refine Ops.nil ?_
      refine Ends.goes ?_
      refine Goes.back (hK ((k : Int) - 1) ⟨by omega, by omega, ?_⟩ (by omega)) ⟨rfl, rfl, trivial⟩
      have hf : has L k = false := by unfold has; cases e : lvl L k with
            | nil => rfl
            | cons y t => rw [e] at h2; simp at h2
      rw [hh, show ((k : Int) + 1).toNat = k + 1 by omega, show ((k : Int) - 1 + 1).toNat = k by omega]
      simp only [hiM]; rw [if_neg (by rw [hf]; simp)]
  · refine Wp.exit ?_
    refine Ends.then_exit ?_
    refine Ends.then_exit ?_
    refine Ends.block_hit ?_
    refine Ends.seq ?_
    refine Wp.seq ?_
    refine Wp.region ?_
    refine Ops.pv (pv_assign rfl) rfl ?_
    refine Ops.pv (pv_assign rfl) rfl ?_
    refine Ops.nil ?_
    refine Ends.seq ?_
    refine Wp.ret ?_
    have hx : nextI L = -1 := by
      unfold nextI
      rw [hh, show (i + 1).toNat = 0 by omega]; rfl
    exact Ends.ret (res2 rfl rfl rfl) ⟨by rw [nextV, nextB, hx]; rfl, rfl⟩

theorem tr_drDrop (qb : Nat) (H : Hp) (L : Ones) (hH : DRdyH L qb H) (hl : L.length ≤ 2 ^ 20) (hW : RdyW L) (x : Int) : Tr Try.prog 35 [.pointer (some ⟨qb, 0, none⟩), .int .i64 x] (H) (fun u L' => u = .bool (inR L x) ∧ DRdyH (dropR L x) qb L') := by
  obtain ⟨v, K, hs, rfl⟩ := hH
  obtain ⟨a, c, rfl⟩ := hs.form
  have hv := hs.view
  obtain ⟨a0, c', ea⟩ : ∃ a0 c', a = a0 ∧ c = c' := ⟨_, _, rfl, rfl⟩
  refine Tr.enter Try.func35 rfl Try.ntmps35 rfl (fun W F => ?_)
  refine Wp.app ?_
  refine Wp.seq ?_
  refine Wp.region ?_
  refine Ops.pv (pv_assign rfl) rfl ?_
  refine Ops.nil ?_
  refine Ends.seq ?_
  refine Wp.seq ?_
  refine Wp.seq ?_
  refine Wp.region ?_
  refine Ops.pv (pv_assign rfl) rfl ?_
  refine Ops.nil ?_
  refine Ends.seq ?_
  refine Wp.block ?_
  refine Wp.loopK (σ := Nat) [(0, _), (1, _)] (fun s => [(5, .int .i64 s)]) (fun s => (qb, .cells [.slice a L.length c].toArray 68) :: (K ++ F)) (fun s => s ≤ L.length ∧ ∀ j : Nat, j < s → ∀ k', L[j]? ≠ some (x, k')) (fun s => L.length - s) 0 ⟨Nat.zero_le _, fun j hj => absurd hj (Nat.not_lt_zero j)⟩ ⟨rfl, rfl, trivial⟩ ⟨rfl, trivial⟩ (by intro w ho; (try dsimp only [List.nil_append, List.cons_append]); exact Drop.own ho) ?_
  rintro i KK ⟨hi, hn⟩ hK
  dsimp only [List.cons_append, List.nil_append] at hK ⊢
  refine Wp.seq ?_
  refine Wp.seq ?_
  refine Wp.region ?_
  refine Ops.pv (pv_move rfl) rfl ?_
  refine Ops.pv (pv_move rfl) rfl ?_
  first | refine Ops.pv (pv_nilCheck rfl) rfl ?_ | refine Ops.pv (pv_nilCheck_func rfl rfl) rfl ?_
  first | refine Ops.pv (pv_fieldAddr0 rfl rfl) rfl ?_ | refine Ops.pv (pv_fieldAddr rfl rfl) rfl ?_
  first | refine Ops.pv (pv_load rfl rfl rfl) rfl ?_ | refine Ops.pv (pv_load rfl rfl (by assumption)) rfl ?_
  refine Ops.pv (pv_len_slice (T := 66) rfl rfl) rfl ?_
  refine Ops.pv (pv_lss rfl rfl) rfl ?_
  refine Ops.nil ?_
  refine Ends.seq ?_
  first | refine Wp.cond_dect rfl (fun h1 => ?_) (fun h1 => ?_) | refine Wp.cond_t rfl (fun h1 => ?_) (fun h1 => ?_)
  · refine Wp.skip ?_
    refine Ends.seq ?_
    refine Wp.seq ?_
    refine Wp.block ?_
    refine Wp.seq ?_
    refine Wp.region ?_
    obtain ⟨b, o, cap, cc, T, f, hv1, hbv, hr⟩ := hv.open (by omega)
    cases hv1
    obtain ⟨e, he⟩ : ∃ e, L[i]? = some e := ⟨_, List.getElem?_eq_getElem (by omega)⟩
    obtain ⟨q0, q1⟩ := one_read hr he
    refine Ops.pv (pv_move rfl) rfl ?_
    first | refine Ops.pv (pv_nilCheck rfl) rfl ?_ | refine Ops.pv (pv_nilCheck_func rfl rfl) rfl ?_
    first | refine Ops.pv (pv_fieldAddr0 rfl rfl) rfl ?_ | refine Ops.pv (pv_fieldAddr rfl rfl) rfl ?_
    first | refine Ops.pv (pv_load rfl rfl rfl) rfl ?_ | refine Ops.pv (pv_load rfl rfl (by assumption)) rfl ?_
    refine Ops.pv (pv_move rfl) rfl ?_
    refine Ops.pv (pv_indexAddr rfl rfl rfl (by omega)) rfl ?_
    first | refine Ops.pv (pv_fieldAddr0 rfl rfl) rfl ?_ | refine Ops.pv (pv_fieldAddr rfl rfl) rfl ?_
    first | refine Ops.pv (pv_load rfl rfl rfl) rfl ?_ | refine Ops.pv (pv_load rfl rfl (by assumption)) rfl ?_
    refine Ops.pv (pv_move rfl) rfl ?_
    refine Ops.pv (pv_eql rfl rfl) rfl ?_
    refine Ops.nil ?_
    refine Ends.seq ?_
    first | refine Wp.cond_dect rfl (fun h2 => ?_) (fun h2 => ?_) | refine Wp.cond_t rfl (fun h2 => ?_) (fun h2 => ?_)
    · have hA := hv.part (f := oneC) (i := 0) (j := i) (Nat.zero_le _) (by omega)
      have hB := hv.part (f := oneC) (i := i + 1) (j := L.length) (by omega) (Nat.le_refl _)
      have eA : (L.drop 0).take (i - 0) = L.take i := by simp
      have eB : (L.drop (i + 1)).take (L.length - (i + 1)) = L.drop (i + 1) := List.take_of_length_le (by simp)
      have lA := plen (l := L) (i := 0) (j := i) (Nat.zero_le _) (by omega)
      have lB := plen (l := L) (i := i + 1) (j := L.length) (by omega) (Nat.le_refl _)
      rw [eA] at hA lA
      rw [eB] at hB lB
      have he2 : L[i]? = some (x, e.2) := by rw [he]; exact congrArg some (pair_of (by assumption))
      have hrem := take_drop_filter hW.nd he2
      have hcp : L.length ≤ c := by obtain ⟨_, _, _, e, h, _⟩ := hv; cases e; exact h
      refine Wp.seq ?_
      refine AnyH.start K 20 rfl ?_
      refine AnyH.take 0 rfl (by kernel_rfl) (by kernel_rfl) (by kernel_rfl) PF.pf rfl (pv_move rfl) rfl ?_
      refine AnyH.take 2 rfl (by kernel_rfl) (by kernel_rfl) (by kernel_rfl) PF.pf rfl (pv_move rfl) rfl ?_
      first | refine AnyH.take 3 rfl (by kernel_rfl) (by kernel_rfl) (by kernel_rfl) PF.pf rfl (pv_nilCheck rfl) rfl ?_ | refine AnyH.take 3 rfl (by kernel_rfl) (by kernel_rfl) (by kernel_rfl) PF.pf rfl (pv_nilCheck_func rfl rfl) rfl ?_
      first | refine AnyH.take 4 rfl (by kernel_rfl) (by kernel_rfl) (by kernel_rfl) PF.pf rfl (pv_fieldAddr0 rfl rfl) rfl ?_ | refine AnyH.take 4 rfl (by kernel_rfl) (by kernel_rfl) (by kernel_rfl) PF.pf rfl (pv_fieldAddr rfl rfl) rfl ?_
      refine AnyH.take 6 rfl (by kernel_rfl) (by kernel_rfl) (by kernel_rfl) PF.pf rfl (pv_move rfl) rfl ?_
      refine AnyH.take 9 rfl (by kernel_rfl) (by kernel_rfl) (by kernel_rfl) PF.pf rfl (pv_move rfl) rfl ?_
      first | refine AnyH.take 10 rfl (by kernel_rfl) (by kernel_rfl) (by kernel_rfl) PF.pf rfl (pv_nilCheck rfl) rfl ?_ | refine AnyH.take 10 rfl (by kernel_rfl) (by kernel_rfl) (by kernel_rfl) PF.pf rfl (pv_nilCheck_func rfl rfl) rfl ?_
      first | refine AnyH.take 11 rfl (by kernel_rfl) (by kernel_rfl) (by kernel_rfl) PF.pf rfl (pv_fieldAddr0 rfl rfl) rfl ?_ | refine AnyH.take 11 rfl (by kernel_rfl) (by kernel_rfl) (by kernel_rfl) PF.pf rfl (pv_fieldAddr rfl rfl) rfl ?_
      refine AnyH.take 13 rfl (by kernel_rfl) (by kernel_rfl) (by kernel_rfl) PF.pf rfl (pv_move rfl) rfl ?_
      refine AnyH.take 14 rfl (by kernel_rfl) (by kernel_rfl) (by kernel_rfl) PF.pf rfl (pv_add rfl rfl (w64n (k := i + 1) (by omega) (by omega))) rfl ?_
      refine AnyH.three 1 5 12 (by kernel_rfl) ?_ ?_ ?_
      · refine Turn.ef rfl rfl (ef_buildSlice0 rfl) ?_ ?_
        · rintro _ _ ⟨b1, rfl, rfl⟩; infer_instance
        rintro _ _ ⟨b1, rfl, rfl⟩
        refine AnyH.two 5 12 (by kernel_rfl) ?_ ?_
        · first | refine Turn.ef rfl rfl (ef_pv (pv_load rfl rfl rfl) rfl) ?_ ?_ | refine Turn.ef rfl rfl (ef_pv (pv_load rfl rfl (by assumption)) rfl) ?_ ?_
          · rintro _ _ ⟨rfl, rfl⟩; infer_instance
          rintro _ _ ⟨rfl, rfl⟩
          refine AnyH.take 7 rfl (by kernel_rfl) (by kernel_rfl) (by kernel_rfl) PF.pf rfl (pv_sliceL (i := 0) (j := i) rfl rfl ⟨_, rfl⟩ (Nat.zero_le _) (by omega) lA.symm) rfl ?_
          refine AnyH.two 8 12 (by kernel_rfl) ?_ ?_
          · refine Turn.ef rfl rfl (ef_appendV (H := [(b1, .cells ([] : List Value).toArray 80)]) rfl (slc_empty' 80 2 b1) rfl (hA.mono (by intro p hp; simp [hp])) (cel_one _) (by omega) (by omega) rfl rfl) ?_ ?_
            · rintro _ _ ⟨v1, H1, hs1, rfl, rfl⟩; infer_instance
            rintro _ _ ⟨v1, H1, hs1, rfl, rfl⟩
            refine AnyH.app ?_
            skip
            refine AnyH.one 12 (by kernel_rfl) ?_
            first | refine Turn.ef rfl rfl (ef_pv (pv_load rfl rfl rfl) rfl) ?_ ?_ | refine Turn.ef rfl rfl (ef_pv (pv_load rfl rfl (by assumption)) rfl) ?_ ?_
            · rintro _ _ ⟨rfl, rfl⟩; infer_instance
            rintro _ _ ⟨rfl, rfl⟩
            refine AnyH.take 15 rfl (by kernel_rfl) (by kernel_rfl) (by kernel_rfl) PF.pf rfl (pv_sliceL (i := i + 1) (j := L.length) rfl ⟨_, rfl⟩ rfl (by omega) hcp lB.symm) rfl ?_
            refine AnyH.one 16 (by kernel_rfl) ?_
            refine Turn.ef rfl rfl (ef_appendV (H := H1) rfl hs1 rfl (hB.mono (by intro p hp; simp [hp])) (cel_one _) (by omega) (by omega) rfl rfl) ?_ ?_
            · rintro _ _ ⟨v2, H2, hs2, rfl, rfl⟩; infer_instance
            rintro _ _ ⟨v2, H2, hs2, rfl, rfl⟩
            refine AnyH.app ?_
            have ho1 := hs2.one
            have ho2 := hs2.cells1
            first | refine AnyH.take 17 rfl (by kernel_rfl) (by kernel_rfl) (by kernel_rfl) PF.pf rfl (pv_nilCheck rfl) rfl ?_ | refine AnyH.take 17 rfl (by kernel_rfl) (by kernel_rfl) (by kernel_rfl) PF.pf rfl (pv_nilCheck_func rfl rfl) rfl ?_
            first | refine AnyH.take 18 rfl (by kernel_rfl) (by kernel_rfl) (by kernel_rfl) PF.pf rfl (pv_fieldAddr0 rfl rfl) rfl ?_ | refine AnyH.take 18 rfl (by kernel_rfl) (by kernel_rfl) (by kernel_rfl) PF.pf rfl (pv_fieldAddr rfl rfl) rfl ?_
            refine AnyH.one 19 (by kernel_rfl) ?_
            refine Turn.ef rfl rfl (ef_store1 rfl rfl (by first | rfl | assumption) (by first | rfl | assumption)) ?_ ?_
            · rintro _ _ ⟨rfl, rfl⟩; infer_instance
            rintro _ _ ⟨rfl, rfl⟩
            refine AnyH.done (by kernel_rfl) ?_
            refine Ends.seq ?_
            refine Wp.seq ?_
            refine Wp.region ?_
            refine Ops.pv (pv_assign rfl) rfl ?_
            refine Ops.nil ?_
            refine Ends.seq ?_
            refine Wp.ret ?_
            refine Ends.block_ret ?_
            refine Ends.then_ret ?_
            refine Ends.then_ret ?_
            refine Ends.block_ret ?_
            refine Ends.then_ret ?_
            rw [Nat.zero_add, List.nil_append, ← cel_app, ← List.length_append, hrem] at hs2
            exact Ends.ret (L' := (qb, .cells [v2].toArray 68) :: H2) (res1 rfl rfl) ⟨by rw [inR_hit he2], v2, H2, hs2, rfl⟩
          · first | refine Turn.ef rfl rfl (ef_pv (pv_load rfl rfl rfl) rfl) ?_ ?_ | refine Turn.ef rfl rfl (ef_pv (pv_load rfl rfl (by assumption)) rfl) ?_ ?_
            · rintro _ _ ⟨rfl, rfl⟩; infer_instance
            rintro _ _ ⟨rfl, rfl⟩
            refine AnyH.take 15 rfl (by kernel_rfl) (by kernel_rfl) (by kernel_rfl) PF.pf rfl (pv_sliceL (i := i + 1) (j := L.length) rfl ⟨_, rfl⟩ rfl (by omega) hcp lB.symm) rfl ?_
            refine AnyH.one 8 (by kernel_rfl) ?_
            refine Turn.ef rfl rfl (ef_appendV (H := [(b1, .cells ([] : List Value).toArray 80)]) rfl (slc_empty' 80 2 b1) rfl (hA.mono (by intro p hp; simp [hp])) (cel_one _) (by omega) (by omega) rfl rfl) ?_ ?_
            · rintro _ _ ⟨v3, H3, hs3, rfl, rfl⟩; infer_instance
            rintro _ _ ⟨v3, H3, hs3, rfl, rfl⟩
            refine AnyH.app ?_
            skip
            refine AnyH.one 16 (by kernel_rfl) ?_
            refine Turn.ef rfl rfl (ef_appendV (H := H3) rfl hs3 rfl (hB.mono (by intro p hp; simp [hp])) (cel_one _) (by omega) (by omega) rfl rfl) ?_ ?_
            · rintro _ _ ⟨v4, H4, hs4, rfl, rfl⟩; infer_instance
            rintro _ _ ⟨v4, H4, hs4, rfl, rfl⟩
            refine AnyH.app ?_
            have ho1 := hs4.one
            have ho2 := hs4.cells1
            first | refine AnyH.take 17 rfl (by kernel_rfl) (by kernel_rfl) (by kernel_rfl) PF.pf rfl (pv_nilCheck rfl) rfl ?_ | refine AnyH.take 17 rfl (by kernel_rfl) (by kernel_rfl) (by kernel_rfl) PF.pf rfl (pv_nilCheck_func rfl rfl) rfl ?_
            first | refine AnyH.take 18 rfl (by kernel_rfl) (by kernel_rfl) (by kernel_rfl) PF.pf rfl (pv_fieldAddr0 rfl rfl) rfl ?_ | refine AnyH.take 18 rfl (by kernel_rfl) (by kernel_rfl) (by kernel_rfl) PF.pf rfl (pv_fieldAddr rfl rfl) rfl ?_
            refine AnyH.one 19 (by kernel_rfl) ?_
            refine Turn.ef rfl rfl (ef_store1 rfl rfl (by first | rfl | assumption) (by first | rfl | assumption)) ?_ ?_
            · rintro _ _ ⟨rfl, rfl⟩; infer_instance
            rintro _ _ ⟨rfl, rfl⟩
            refine AnyH.done (by kernel_rfl) ?_
            refine Ends.seq ?_
            refine Wp.seq ?_
            refine Wp.region ?_
            refine Ops.pv (pv_assign rfl) rfl ?_
            refine Ops.nil ?_
            refine Ends.seq ?_
            refine Wp.ret ?_
            refine Ends.block_ret ?_
            refine Ends.then_ret ?_
            refine Ends.then_ret ?_
            refine Ends.block_ret ?_
            refine Ends.then_ret ?_
            rw [Nat.zero_add, List.nil_append, ← cel_app, ← List.length_append, hrem] at hs4
            exact Ends.ret (L' := (qb, .cells [v4].toArray 68) :: H4) (res1 rfl rfl) ⟨by rw [inR_hit he2], v4, H4, hs4, rfl⟩
        · first | refine Turn.ef rfl rfl (ef_pv (pv_load rfl rfl rfl) rfl) ?_ ?_ | refine Turn.ef rfl rfl (ef_pv (pv_load rfl rfl (by assumption)) rfl) ?_ ?_
          · rintro _ _ ⟨rfl, rfl⟩; infer_instance
          rintro _ _ ⟨rfl, rfl⟩
          refine AnyH.take 15 rfl (by kernel_rfl) (by kernel_rfl) (by kernel_rfl) PF.pf rfl (pv_sliceL (i := i + 1) (j := L.length) rfl ⟨_, rfl⟩ rfl (by omega) hcp lB.symm) rfl ?_
          refine AnyH.one 5 (by kernel_rfl) ?_
          first | refine Turn.ef rfl rfl (ef_pv (pv_load rfl rfl rfl) rfl) ?_ ?_ | refine Turn.ef rfl rfl (ef_pv (pv_load rfl rfl (by assumption)) rfl) ?_ ?_
          · rintro _ _ ⟨rfl, rfl⟩; infer_instance
          rintro _ _ ⟨rfl, rfl⟩
          refine AnyH.take 7 rfl (by kernel_rfl) (by kernel_rfl) (by kernel_rfl) PF.pf rfl (pv_sliceL (i := 0) (j := i) rfl rfl ⟨_, rfl⟩ (Nat.zero_le _) (by omega) lA.symm) rfl ?_
          refine AnyH.one 8 (by kernel_rfl) ?_
          refine Turn.ef rfl rfl (ef_appendV (H := [(b1, .cells ([] : List Value).toArray 80)]) rfl (slc_empty' 80 2 b1) rfl (hA.mono (by intro p hp; simp [hp])) (cel_one _) (by omega) (by omega) rfl rfl) ?_ ?_
          · rintro _ _ ⟨v5, H5, hs5, rfl, rfl⟩; infer_instance
          rintro _ _ ⟨v5, H5, hs5, rfl, rfl⟩
          refine AnyH.app ?_
          skip
          refine AnyH.one 16 (by kernel_rfl) ?_
          refine Turn.ef rfl rfl (ef_appendV (H := H5) rfl hs5 rfl (hB.mono (by intro p hp; simp [hp])) (cel_one _) (by omega) (by omega) rfl rfl) ?_ ?_
          · rintro _ _ ⟨v6, H6, hs6, rfl, rfl⟩; infer_instance
          rintro _ _ ⟨v6, H6, hs6, rfl, rfl⟩
          refine AnyH.app ?_
          have ho1 := hs6.one
          have ho2 := hs6.cells1
          first | refine AnyH.take 17 rfl (by kernel_rfl) (by kernel_rfl) (by kernel_rfl) PF.pf rfl (pv_nilCheck rfl) rfl ?_ | refine AnyH.take 17 rfl (by kernel_rfl) (by kernel_rfl) (by kernel_rfl) PF.pf rfl (pv_nilCheck_func rfl rfl) rfl ?_
          first | refine AnyH.take 18 rfl (by kernel_rfl) (by kernel_rfl) (by kernel_rfl) PF.pf rfl (pv_fieldAddr0 rfl rfl) rfl ?_ | refine AnyH.take 18 rfl (by kernel_rfl) (by kernel_rfl) (by kernel_rfl) PF.pf rfl (pv_fieldAddr rfl rfl) rfl ?_
          refine AnyH.one 19 (by kernel_rfl) ?_
          refine Turn.ef rfl rfl (ef_store1 rfl rfl (by first | rfl | assumption) (by first | rfl | assumption)) ?_ ?_
          · rintro _ _ ⟨rfl, rfl⟩; infer_instance
          rintro _ _ ⟨rfl, rfl⟩
          refine AnyH.done (by kernel_rfl) ?_
          refine Ends.seq ?_
          refine Wp.seq ?_
          refine Wp.region ?_
          refine Ops.pv (pv_assign rfl) rfl ?_
          refine Ops.nil ?_
          refine Ends.seq ?_
          refine Wp.ret ?_
          refine Ends.block_ret ?_
          refine Ends.then_ret ?_
          refine Ends.then_ret ?_
          refine Ends.block_ret ?_
          refine Ends.then_ret ?_
          rw [Nat.zero_add, List.nil_append, ← cel_app, ← List.length_append, hrem] at hs6
          exact Ends.ret (L' := (qb, .cells [v6].toArray 68) :: H6) (res1 rfl rfl) ⟨by rw [inR_hit he2], v6, H6, hs6, rfl⟩
      · first | refine Turn.ef rfl rfl (ef_pv (pv_load rfl rfl rfl) rfl) ?_ ?_ | refine Turn.ef rfl rfl (ef_pv (pv_load rfl rfl (by assumption)) rfl) ?_ ?_
        · rintro _ _ ⟨rfl, rfl⟩; infer_instance
        rintro _ _ ⟨rfl, rfl⟩
        refine AnyH.take 7 rfl (by kernel_rfl) (by kernel_rfl) (by kernel_rfl) PF.pf rfl (pv_sliceL (i := 0) (j := i) rfl rfl ⟨_, rfl⟩ (Nat.zero_le _) (by omega) lA.symm) rfl ?_
        refine AnyH.two 1 12 (by kernel_rfl) ?_ ?_
        · refine Turn.ef rfl rfl (ef_buildSlice0 rfl) ?_ ?_
          · rintro _ _ ⟨b2, rfl, rfl⟩; infer_instance
          rintro _ _ ⟨b2, rfl, rfl⟩
          refine AnyH.two 8 12 (by kernel_rfl) ?_ ?_
          · refine Turn.ef rfl rfl (ef_appendV (H := [(b2, .cells ([] : List Value).toArray 80)]) rfl (slc_empty' 80 2 b2) rfl (hA.mono (by intro p hp; simp [hp])) (cel_one _) (by omega) (by omega) rfl rfl) ?_ ?_
            · rintro _ _ ⟨v7, H7, hs7, rfl, rfl⟩; infer_instance
            rintro _ _ ⟨v7, H7, hs7, rfl, rfl⟩
            refine AnyH.app ?_
            skip
            refine AnyH.one 12 (by kernel_rfl) ?_
            first | refine Turn.ef rfl rfl (ef_pv (pv_load rfl rfl rfl) rfl) ?_ ?_ | refine Turn.ef rfl rfl (ef_pv (pv_load rfl rfl (by assumption)) rfl) ?_ ?_
            · rintro _ _ ⟨rfl, rfl⟩; infer_instance
            rintro _ _ ⟨rfl, rfl⟩
            refine AnyH.take 15 rfl (by kernel_rfl) (by kernel_rfl) (by kernel_rfl) PF.pf rfl (pv_sliceL (i := i + 1) (j := L.length) rfl ⟨_, rfl⟩ rfl (by omega) hcp lB.symm) rfl ?_
            refine AnyH.one 16 (by kernel_rfl) ?_
            refine Turn.ef rfl rfl (ef_appendV (H := H7) rfl hs7 rfl (hB.mono (by intro p hp; simp [hp])) (cel_one _) (by omega) (by omega) rfl rfl) ?_ ?_
            · rintro _ _ ⟨v8, H8, hs8, rfl, rfl⟩; infer_instance
            rintro _ _ ⟨v8, H8, hs8, rfl, rfl⟩
            refine AnyH.app ?_
            have ho1 := hs8.one
            have ho2 := hs8.cells1
            first | refine AnyH.take 17 rfl (by kernel_rfl) (by kernel_rfl) (by kernel_rfl) PF.pf rfl (pv_nilCheck rfl) rfl ?_ | refine AnyH.take 17 rfl (by kernel_rfl) (by kernel_rfl) (by kernel_rfl) PF.pf rfl (pv_nilCheck_func rfl rfl) rfl ?_
            first | refine AnyH.take 18 rfl (by kernel_rfl) (by kernel_rfl) (by kernel_rfl) PF.pf rfl (pv_fieldAddr0 rfl rfl) rfl ?_ | refine AnyH.take 18 rfl (by kernel_rfl) (by kernel_rfl) (by kernel_rfl) PF.pf rfl (pv_fieldAddr rfl rfl) rfl ?_
            refine AnyH.one 19 (by kernel_rfl) ?_
            refine Turn.ef rfl rfl (ef_store1 rfl rfl (by first | rfl | assumption) (by first | rfl | assumption)) ?_ ?_
            · rintro _ _ ⟨rfl, rfl⟩; infer_instance
            rintro _ _ ⟨rfl, rfl⟩
            refine AnyH.done (by kernel_rfl) ?_
            refine Ends.seq ?_
            refine Wp.seq ?_
            refine Wp.region ?_
            refine Ops.pv (pv_assign rfl) rfl ?_
            refine Ops.nil ?_
            refine Ends.seq ?_
            refine Wp.ret ?_
            refine Ends.block_ret ?_
            refine Ends.then_ret ?_
            refine Ends.then_ret ?_
            refine Ends.block_ret ?_
            refine Ends.then_ret ?_
            rw [Nat.zero_add, List.nil_append, ← cel_app, ← List.length_append, hrem] at hs8
            exact Ends.ret (L' := (qb, .cells [v8].toArray 68) :: H8) (res1 rfl rfl) ⟨by rw [inR_hit he2], v8, H8, hs8, rfl⟩
          · first | refine Turn.ef rfl rfl (ef_pv (pv_load rfl rfl rfl) rfl) ?_ ?_ | refine Turn.ef rfl rfl (ef_pv (pv_load rfl rfl (by assumption)) rfl) ?_ ?_
            · rintro _ _ ⟨rfl, rfl⟩; infer_instance
            rintro _ _ ⟨rfl, rfl⟩
            refine AnyH.take 15 rfl (by kernel_rfl) (by kernel_rfl) (by kernel_rfl) PF.pf rfl (pv_sliceL (i := i + 1) (j := L.length) rfl ⟨_, rfl⟩ rfl (by omega) hcp lB.symm) rfl ?_
            refine AnyH.one 8 (by kernel_rfl) ?_
            refine Turn.ef rfl rfl (ef_appendV (H := [(b2, .cells ([] : List Value).toArray 80)]) rfl (slc_empty' 80 2 b2) rfl (hA.mono (by intro p hp; simp [hp])) (cel_one _) (by omega) (by omega) rfl rfl) ?_ ?_
            · rintro _ _ ⟨v9, H9, hs9, rfl, rfl⟩; infer_instance
            rintro _ _ ⟨v9, H9, hs9, rfl, rfl⟩
            refine AnyH.app ?_
            skip
            refine AnyH.one 16 (by kernel_rfl) ?_
            refine Turn.ef rfl rfl (ef_appendV (H := H9) rfl hs9 rfl (hB.mono (by intro p hp; simp [hp])) (cel_one _) (by omega) (by omega) rfl rfl) ?_ ?_
            · rintro _ _ ⟨v10, H10, hs10, rfl, rfl⟩; infer_instance
            rintro _ _ ⟨v10, H10, hs10, rfl, rfl⟩
            refine AnyH.app ?_
            have ho1 := hs10.one
            have ho2 := hs10.cells1
            first | refine AnyH.take 17 rfl (by kernel_rfl) (by kernel_rfl) (by kernel_rfl) PF.pf rfl (pv_nilCheck rfl) rfl ?_ | refine AnyH.take 17 rfl (by kernel_rfl) (by kernel_rfl) (by kernel_rfl) PF.pf rfl (pv_nilCheck_func rfl rfl) rfl ?_
            first | refine AnyH.take 18 rfl (by kernel_rfl) (by kernel_rfl) (by kernel_rfl) PF.pf rfl (pv_fieldAddr0 rfl rfl) rfl ?_ | refine AnyH.take 18 rfl (by kernel_rfl) (by kernel_rfl) (by kernel_rfl) PF.pf rfl (pv_fieldAddr rfl rfl) rfl ?_
            refine AnyH.one 19 (by kernel_rfl) ?_
            refine Turn.ef rfl rfl (ef_store1 rfl rfl (by first | rfl | assumption) (by first | rfl | assumption)) ?_ ?_
            · rintro _ _ ⟨rfl, rfl⟩; infer_instance
            rintro _ _ ⟨rfl, rfl⟩
            refine AnyH.done (by kernel_rfl) ?_
            refine Ends.seq ?_
            refine Wp.seq ?_
            refine Wp.region ?_
            refine Ops.pv (pv_assign rfl) rfl ?_
            refine Ops.nil ?_
            refine Ends.seq ?_
            refine Wp.ret ?_
            refine Ends.block_ret ?_
            refine Ends.then_ret ?_
            refine Ends.then_ret ?_
            refine Ends.block_ret ?_
            refine Ends.then_ret ?_
            rw [Nat.zero_add, List.nil_append, ← cel_app, ← List.length_append, hrem] at hs10
            exact Ends.ret (L' := (qb, .cells [v10].toArray 68) :: H10) (res1 rfl rfl) ⟨by rw [inR_hit he2], v10, H10, hs10, rfl⟩
        · first | refine Turn.ef rfl rfl (ef_pv (pv_load rfl rfl rfl) rfl) ?_ ?_ | refine Turn.ef rfl rfl (ef_pv (pv_load rfl rfl (by assumption)) rfl) ?_ ?_
          · rintro _ _ ⟨rfl, rfl⟩; infer_instance
          rintro _ _ ⟨rfl, rfl⟩
          refine AnyH.take 15 rfl (by kernel_rfl) (by kernel_rfl) (by kernel_rfl) PF.pf rfl (pv_sliceL (i := i + 1) (j := L.length) rfl ⟨_, rfl⟩ rfl (by omega) hcp lB.symm) rfl ?_
          refine AnyH.one 1 (by kernel_rfl) ?_
          refine Turn.ef rfl rfl (ef_buildSlice0 rfl) ?_ ?_
          · rintro _ _ ⟨b3, rfl, rfl⟩; infer_instance
          rintro _ _ ⟨b3, rfl, rfl⟩
          refine AnyH.one 8 (by kernel_rfl) ?_
          refine Turn.ef rfl rfl (ef_appendV (H := [(b3, .cells ([] : List Value).toArray 80)]) rfl (slc_empty' 80 2 b3) rfl (hA.mono (by intro p hp; simp [hp])) (cel_one _) (by omega) (by omega) rfl rfl) ?_ ?_
          · rintro _ _ ⟨v11, H11, hs11, rfl, rfl⟩; infer_instance
          rintro _ _ ⟨v11, H11, hs11, rfl, rfl⟩
          refine AnyH.app ?_
          skip
          refine AnyH.one 16 (by kernel_rfl) ?_
          refine Turn.ef rfl rfl (ef_appendV (H := H11) rfl hs11 rfl (hB.mono (by intro p hp; simp [hp])) (cel_one _) (by omega) (by omega) rfl rfl) ?_ ?_
          · rintro _ _ ⟨v12, H12, hs12, rfl, rfl⟩; infer_instance
          rintro _ _ ⟨v12, H12, hs12, rfl, rfl⟩
          refine AnyH.app ?_
          have ho1 := hs12.one
          have ho2 := hs12.cells1
          first | refine AnyH.take 17 rfl (by kernel_rfl) (by kernel_rfl) (by kernel_rfl) PF.pf rfl (pv_nilCheck rfl) rfl ?_ | refine AnyH.take 17 rfl (by kernel_rfl) (by kernel_rfl) (by kernel_rfl) PF.pf rfl (pv_nilCheck_func rfl rfl) rfl ?_
          first | refine AnyH.take 18 rfl (by kernel_rfl) (by kernel_rfl) (by kernel_rfl) PF.pf rfl (pv_fieldAddr0 rfl rfl) rfl ?_ | refine AnyH.take 18 rfl (by kernel_rfl) (by kernel_rfl) (by kernel_rfl) PF.pf rfl (pv_fieldAddr rfl rfl) rfl ?_
          refine AnyH.one 19 (by kernel_rfl) ?_
          refine Turn.ef rfl rfl (ef_store1 rfl rfl (by first | rfl | assumption) (by first | rfl | assumption)) ?_ ?_
          · rintro _ _ ⟨rfl, rfl⟩; infer_instance
          rintro _ _ ⟨rfl, rfl⟩
          refine AnyH.done (by kernel_rfl) ?_
          refine Ends.seq ?_
          refine Wp.seq ?_
          refine Wp.region ?_
          refine Ops.pv (pv_assign rfl) rfl ?_
          refine Ops.nil ?_
          refine Ends.seq ?_
          refine Wp.ret ?_
          refine Ends.block_ret ?_
          refine Ends.then_ret ?_
          refine Ends.then_ret ?_
          refine Ends.block_ret ?_
          refine Ends.then_ret ?_
          rw [Nat.zero_add, List.nil_append, ← cel_app, ← List.length_append, hrem] at hs12
          exact Ends.ret (L' := (qb, .cells [v12].toArray 68) :: H12) (res1 rfl rfl) ⟨by rw [inR_hit he2], v12, H12, hs12, rfl⟩
      · first | refine Turn.ef rfl rfl (ef_pv (pv_load rfl rfl rfl) rfl) ?_ ?_ | refine Turn.ef rfl rfl (ef_pv (pv_load rfl rfl (by assumption)) rfl) ?_ ?_
        · rintro _ _ ⟨rfl, rfl⟩; infer_instance
        rintro _ _ ⟨rfl, rfl⟩
        refine AnyH.take 15 rfl (by kernel_rfl) (by kernel_rfl) (by kernel_rfl) PF.pf rfl (pv_sliceL (i := i + 1) (j := L.length) rfl ⟨_, rfl⟩ rfl (by omega) hcp lB.symm) rfl ?_
        refine AnyH.two 1 5 (by kernel_rfl) ?_ ?_
        · refine Turn.ef rfl rfl (ef_buildSlice0 rfl) ?_ ?_
          · rintro _ _ ⟨b4, rfl, rfl⟩; infer_instance
          rintro _ _ ⟨b4, rfl, rfl⟩
          refine AnyH.one 5 (by kernel_rfl) ?_
          first | refine Turn.ef rfl rfl (ef_pv (pv_load rfl rfl rfl) rfl) ?_ ?_ | refine Turn.ef rfl rfl (ef_pv (pv_load rfl rfl (by assumption)) rfl) ?_ ?_
          · rintro _ _ ⟨rfl, rfl⟩; infer_instance
          rintro _ _ ⟨rfl, rfl⟩
          refine AnyH.take 7 rfl (by kernel_rfl) (by kernel_rfl) (by kernel_rfl) PF.pf rfl (pv_sliceL (i := 0) (j := i) rfl rfl ⟨_, rfl⟩ (Nat.zero_le _) (by omega) lA.symm) rfl ?_
          refine AnyH.one 8 (by kernel_rfl) ?_
          refine Turn.ef rfl rfl (ef_appendV (H := [(b4, .cells ([] : List Value).toArray 80)]) rfl (slc_empty' 80 2 b4) rfl (hA.mono (by intro p hp; simp [hp])) (cel_one _) (by omega) (by omega) rfl rfl) ?_ ?_
          · rintro _ _ ⟨v13, H13, hs13, rfl, rfl⟩; infer_instance
          rintro _ _ ⟨v13, H13, hs13, rfl, rfl⟩
          refine AnyH.app ?_
          skip
          refine AnyH.one 16 (by kernel_rfl) ?_
          refine Turn.ef rfl rfl (ef_appendV (H := H13) rfl hs13 rfl (hB.mono (by intro p hp; simp [hp])) (cel_one _) (by omega) (by omega) rfl rfl) ?_ ?_
          · rintro _ _ ⟨v14, H14, hs14, rfl, rfl⟩; infer_instance
          rintro _ _ ⟨v14, H14, hs14, rfl, rfl⟩
          refine AnyH.app ?_
          have ho1 := hs14.one
          have ho2 := hs14.cells1
          first | refine AnyH.take 17 rfl (by kernel_rfl) (by kernel_rfl) (by kernel_rfl) PF.pf rfl (pv_nilCheck rfl) rfl ?_ | refine AnyH.take 17 rfl (by kernel_rfl) (by kernel_rfl) (by kernel_rfl) PF.pf rfl (pv_nilCheck_func rfl rfl) rfl ?_
          first | refine AnyH.take 18 rfl (by kernel_rfl) (by kernel_rfl) (by kernel_rfl) PF.pf rfl (pv_fieldAddr0 rfl rfl) rfl ?_ | refine AnyH.take 18 rfl (by kernel_rfl) (by kernel_rfl) (by kernel_rfl) PF.pf rfl (pv_fieldAddr rfl rfl) rfl ?_
          refine AnyH.one 19 (by kernel_rfl) ?_
          refine Turn.ef rfl rfl (ef_store1 rfl rfl (by first | rfl | assumption) (by first | rfl | assumption)) ?_ ?_
          · rintro _ _ ⟨rfl, rfl⟩; infer_instance
          rintro _ _ ⟨rfl, rfl⟩
          refine AnyH.done (by kernel_rfl) ?_
          refine Ends.seq ?_
          refine Wp.seq ?_
          refine Wp.region ?_
          refine Ops.pv (pv_assign rfl) rfl ?_
          refine Ops.nil ?_
          refine Ends.seq ?_
          refine Wp.ret ?_
          refine Ends.block_ret ?_
          refine Ends.then_ret ?_
          refine Ends.then_ret ?_
          refine Ends.block_ret ?_
          refine Ends.then_ret ?_
          rw [Nat.zero_add, List.nil_append, ← cel_app, ← List.length_append, hrem] at hs14
          exact Ends.ret (L' := (qb, .cells [v14].toArray 68) :: H14) (res1 rfl rfl) ⟨by rw [inR_hit he2], v14, H14, hs14, rfl⟩
        · first | refine Turn.ef rfl rfl (ef_pv (pv_load rfl rfl rfl) rfl) ?_ ?_ | refine Turn.ef rfl rfl (ef_pv (pv_load rfl rfl (by assumption)) rfl) ?_ ?_
          · rintro _ _ ⟨rfl, rfl⟩; infer_instance
          rintro _ _ ⟨rfl, rfl⟩
          refine AnyH.take 7 rfl (by kernel_rfl) (by kernel_rfl) (by kernel_rfl) PF.pf rfl (pv_sliceL (i := 0) (j := i) rfl rfl ⟨_, rfl⟩ (Nat.zero_le _) (by omega) lA.symm) rfl ?_
          refine AnyH.one 1 (by kernel_rfl) ?_
          refine Turn.ef rfl rfl (ef_buildSlice0 rfl) ?_ ?_
          · rintro _ _ ⟨b5, rfl, rfl⟩; infer_instance
          rintro _ _ ⟨b5, rfl, rfl⟩
          refine AnyH.one 8 (by kernel_rfl) ?_
          refine Turn.ef rfl rfl (ef_appendV (H := [(b5, .cells ([] : List Value).toArray 80)]) rfl (slc_empty' 80 2 b5) rfl (hA.mono (by intro p hp; simp [hp])) (cel_one _) (by omega) (by omega) rfl rfl) ?_ ?_
          · rintro _ _ ⟨v15, H15, hs15, rfl, rfl⟩; infer_instance
          rintro _ _ ⟨v15, H15, hs15, rfl, rfl⟩
          refine AnyH.app ?_
          skip
          refine AnyH.one 16 (by kernel_rfl) ?_
          refine Turn.ef rfl rfl (ef_appendV (H := H15) rfl hs15 rfl (hB.mono (by intro p hp; simp [hp])) (cel_one _) (by omega) (by omega) rfl rfl) ?_ ?_
          · rintro _ _ ⟨v16, H16, hs16, rfl, rfl⟩; infer_instance
          rintro _ _ ⟨v16, H16, hs16, rfl, rfl⟩
          refine AnyH.app ?_
          have ho1 := hs16.one
          have ho2 := hs16.cells1
          first | refine AnyH.take 17 rfl (by kernel_rfl) (by kernel_rfl) (by kernel_rfl) PF.pf rfl (pv_nilCheck rfl) rfl ?_ | refine AnyH.take 17 rfl (by kernel_rfl) (by kernel_rfl) (by kernel_rfl) PF.pf rfl (pv_nilCheck_func rfl rfl) rfl ?_
          first | refine AnyH.take 18 rfl (by kernel_rfl) (by kernel_rfl) (by kernel_rfl) PF.pf rfl (pv_fieldAddr0 rfl rfl) rfl ?_ | refine AnyH.take 18 rfl (by kernel_rfl) (by kernel_rfl) (by kernel_rfl) PF.pf rfl (pv_fieldAddr rfl rfl) rfl ?_
          refine AnyH.one 19 (by kernel_rfl) ?_
          refine Turn.ef rfl rfl (ef_store1 rfl rfl (by first | rfl | assumption) (by first | rfl | assumption)) ?_ ?_
          · rintro _ _ ⟨rfl, rfl⟩; infer_instance
          rintro _ _ ⟨rfl, rfl⟩
          refine AnyH.done (by kernel_rfl) ?_
          refine Ends.seq ?_
          refine Wp.seq ?_
          refine Wp.region ?_
          refine Ops.pv (pv_assign rfl) rfl ?_
          refine Ops.nil ?_
          refine Ends.seq ?_
          refine Wp.ret ?_
          refine Ends.block_ret ?_
          refine Ends.then_ret ?_
          refine Ends.then_ret ?_
          refine Ends.block_ret ?_
          refine Ends.then_ret ?_
          rw [Nat.zero_add, List.nil_append, ← cel_app, ← List.length_append, hrem] at hs16
          exact Ends.ret (L' := (qb, .cells [v16].toArray 68) :: H16) (res1 rfl rfl) ⟨by rw [inR_hit he2], v16, H16, hs16, rfl⟩
    · refine Wp.skip ?_
      refine Ends.block_normal ?_
      refine Ends.seq ?_
      refine Wp.region ?_
      refine Ops.pv (pv_move rfl) rfl ?_
      first | refine Ops.pv (pv_add rfl rfl (w64 (by omega) (by omega))) rfl ?_ | refine Ops.pv (pv_add rfl rfl rfl) rfl ?_
      refine Ops.pv (pv_assign rfl) rfl ?_
      refine Ops.nil ?_
      refine Ends.goes ?_
      refine Goes.back (hK (i + 1) ⟨by omega, fun j hj k' => ?_⟩ (by omega)) ⟨rfl, rfl, rfl, trivial⟩
      rcases Nat.lt_succ_iff_lt_or_eq.1 hj with hj | rfl
      · exact hn j hj k'
      · rw [he]; intro e1; cases e1; simp_all
  · refine Wp.exit ?_
    refine Ends.then_exit ?_
    refine Ends.then_exit ?_
    refine Ends.block_hit ?_
    refine Ends.seq ?_
    refine Wp.seq ?_
    refine Wp.region ?_
    refine Ops.pv (pv_assign rfl) rfl ?_
    refine Ops.nil ?_
    refine Ends.seq ?_
    refine Wp.ret ?_
    have hf : inR L x = false := inR_miss (fun j hj k => hn j (by omega) k)
    exact Ends.ret (res1 rfl rfl) ⟨by rw [hf], by rw [drop_none hf]; exact ⟨_, K, hs, rfl⟩⟩

end Go.Proofs.Ytpjodkcghiklcab
