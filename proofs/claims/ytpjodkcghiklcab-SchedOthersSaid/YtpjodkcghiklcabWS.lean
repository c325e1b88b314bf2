/- Walks of the library's Index, Contains, Clone, Grow and Concat over integers: each answers as its plain function says. No condition. -/
import Derived.Test.YtpjodkcghiklcabMS
set_option linter.unusedVariables false
set_option linter.unusedSimpArgs false
namespace Go.Proofs.Ytpjodkcghiklcab
open Go.SL

theorem tr_index (G : Hp) (a : Option Addr) (c : Nat) (l : List Int) (x : Int) (hv : View G 1 (.slice a l.length c) l.length (intsC l)) (hl : l.length ≤ 2 ^ 40) : TrR Try.prog 45 [.slice a l.length c, .int .i64 x] (G) (.int .i64 (idxM l x)) := by
  refine Tr.enter Try.func45 rfl Try.ntmps45 rfl (fun W F => ?_)
  refine Wp.app ?_
  refine Wp.seq ?_
  refine Wp.region ?_
  refine Ops.pv (pv_assign rfl) rfl ?_
  refine Ops.nil ?_
  refine Ends.seq ?_
  refine Wp.seq ?_
  refine Wp.seq ?_
  refine Wp.region ?_
  refine Ops.pv (pv_move rfl) rfl ?_
  refine Ops.pv (pv_len_slice (T := 40) rfl rfl) rfl ?_
  refine Ops.pv (pv_move rfl) rfl ?_
  refine Ops.nil ?_
  refine Ends.seq ?_
  refine Wp.block ?_
  refine Wp.loop (σ := Nat) (fun i => [(0, .slice a l.length c), (1, .int .i64 x), (4, .int .i64 0), (7, .int .i64 l.length), (8, .int .i64 i)]) (fun _ => G ++ F) (fun i => i ≤ l.length ∧ ∀ j, j < i → l[j]? ≠ some x) (fun i => l.length - i) 0 ⟨Nat.zero_le _, fun j hj => absurd hj (Nat.not_lt_zero j)⟩ (by exact ⟨rfl, rfl, rfl, rfl, rfl, trivial⟩) (by intro w ho; exact ho) ?_
  rintro i K ⟨hi, hn⟩ hK
  refine Wp.seq ?_
  refine Wp.region ?_
  refine Ops.pv (pv_lss rfl rfl) rfl ?_
  refine Ops.nil ?_
  refine Ends.seq ?_
  refine Wp.seq ?_
  first | refine Wp.cond_dect rfl (fun h1 => ?_) (fun h1 => ?_) | refine Wp.cond_t rfl (fun h1 => ?_) (fun h1 => ?_)
  · obtain ⟨b, o, cap, cc, T, f, hv1, hbv, hr⟩ := hv.open (by omega)
    cases hv1
    obtain ⟨y, hy⟩ : ∃ y, l[i]? = some y := ⟨_, List.getElem?_eq_getElem (by omega)⟩
    have hny := ints_nth hr hy
    refine Wp.skip ?_
    refine Ends.seq ?_
    refine Wp.seq ?_
    refine Wp.block ?_
    refine Wp.seq ?_
    refine Wp.region ?_
    refine Ops.pv (pv_move rfl) rfl ?_
    refine Ops.pv (pv_assign rfl) rfl ?_
    refine Ops.nil ?_
    refine Ends.seq ?_
    refine Wp.seq ?_
    refine Wp.region ?_
    refine Ops.pv (pv_move rfl) rfl ?_
    refine Ops.pv (pv_move rfl) rfl ?_
    refine Ops.pv (pv_move rfl) rfl ?_
    refine Ops.pv (pv_indexAddr (i := i) rfl rfl rfl (by omega)) rfl ?_
    refine Ops.pv (pv_load rfl rfl hny) rfl ?_
    refine Ops.pv (pv_eql rfl rfl) rfl ?_
    refine Ops.nil ?_
    refine Ends.seq ?_
    first | refine Wp.cond_dect rfl (fun h2 => ?_) (fun h2 => ?_) | refine Wp.cond_t rfl (fun h2 => ?_) (fun h2 => ?_)
    · refine Wp.seq ?_
      refine Wp.region ?_
      refine Ops.pv (pv_move rfl) rfl ?_
      refine Ops.pv (pv_assign rfl) rfl ?_
      refine Ops.nil ?_
      refine Ends.seq ?_
      refine Wp.ret ?_
      refine Ends.block_ret ?_
      refine Ends.then_ret ?_
      refine Ends.then_ret ?_
      refine Ends.block_ret ?_
      refine Ends.then_ret ?_
      exact Ends.ret (res1 rfl rfl) ⟨by rw [idx_hit (i := i) (by rw [hy]; congr 1; omega) hn], rfl⟩
    · refine Wp.skip ?_
      refine Ends.block_normal ?_
      refine Ends.seq ?_
      refine Wp.region ?_
      first | refine Ops.pv (pv_add rfl rfl (w64 (by omega) (by omega))) rfl ?_ | refine Ops.pv (pv_add rfl rfl rfl) rfl ?_
      refine Ops.pv (pv_move rfl) rfl ?_
      refine Ops.nil ?_
      refine Ends.goes ?_
      refine Goes.back (hK (i + 1) ⟨by omega, fun j hj => ?_⟩ (by omega)) ⟨rfl, rfl, rfl, rfl, rfl, trivial⟩
      rcases Nat.lt_succ_iff_lt_or_eq.1 hj with hj | rfl
      · exact hn j hj
      · rw [hy]; intro e; cases e; omega
  · refine Wp.exit ?_
    refine Ends.then_exit ?_
    refine Ends.then_exit ?_
    refine Ends.block_hit ?_
    refine Ends.seq ?_
    refine Wp.seq ?_
    refine Wp.region ?_
    refine Ops.pv (pv_assign rfl) rfl ?_
    refine Ops.nil ?_
    refine Ends.seq ?_
    refine Wp.ret ?_
    exact Ends.ret (res1 rfl rfl) ⟨by rw [idx_miss (fun j hj => hn j (by omega))], rfl⟩

theorem tr_contains (G : Hp) (a : Option Addr) (c : Nat) (l : List Int) (x : Int) (hv : View G 1 (.slice a l.length c) l.length (intsC l)) (hl : l.length ≤ 2 ^ 40) : TrR Try.prog 37 [.slice a l.length c, .int .i64 x] (G) (.bool (decide (0 ≤ idxM l x))) := by
  refine Tr.enter Try.func37 rfl Try.ntmps37 rfl (fun W F => ?_)
  refine Wp.app ?_
  refine Wp.seq ?_
  refine Wp.region ?_
  refine Ops.pv (pv_assign rfl) rfl ?_
  refine Ops.nil ?_
  refine Ends.seq ?_
  refine Wp.seq ?_
  refine Wp.region ?_
  refine Ops.pv (pv_move rfl) rfl ?_
  refine Ops.pv (pv_move rfl) rfl ?_
  refine Ops.ef rfl (ef_callr (tr_index G a c l x hv hl) rfl rfl) ?_
  rintro _ _ ⟨rfl, rfl⟩
  refine Ops.pv (pv_geq rfl rfl) rfl ?_
  refine Ops.pv (pv_assign rfl) rfl ?_
  refine Ops.nil ?_
  refine Ends.seq ?_
  refine Wp.ret ?_
  exact Ends.ret (res1 rfl rfl) ⟨rfl, rfl⟩

theorem tr_clone (G : Hp) (a : Option Addr) (c : Nat) (l : List Int) (hv : View G 1 (.slice a l.length c) l.length (intsC l)) (hl : l.length ≤ 2 ^ 40) : Tr Try.prog 48 [.slice a l.length c] (G) (fun v L' => ∃ H, Slc 3 1 v l.length (intsC l) H ∧ L' = H ++ G) := by
  refine Tr.enter Try.func48 rfl Try.ntmps48 rfl (fun W F => ?_)
  refine Wp.app ?_
  refine Wp.seq ?_
  refine Wp.region ?_
  refine Ops.pv (pv_assign rfl) rfl ?_
  refine Ops.nil ?_
  refine Ends.seq ?_
  refine Wp.seq ?_
  refine Wp.seq ?_
  refine Wp.region ?_
  refine Ops.pv (pv_move rfl) rfl ?_
  refine Ops.pv (pv_eql_slcnil rfl rfl) rfl ?_
  refine Ops.nil ?_
  refine Ends.seq ?_
  refine Wp.cond_t rfl (fun h1 => ?_) (fun h1 => ?_)
  · obtain rfl := Option.isNone_iff_eq_none.1 h1
    obtain ⟨e0, e1⟩ := view_nil hv
    refine Wp.seq ?_
    refine Wp.region ?_
    refine Ops.pv (pv_assign rfl) rfl ?_
    refine Ops.nil ?_
    refine Ends.seq ?_
    refine Wp.ret ?_
    refine Ends.then_ret ?_
    exact Ends.ret (L' := G) (res1 rfl rfl) ⟨[], by rw [e0, e1]; exact Slc.nil _ _, rfl⟩
  · refine Wp.skip ?_
    refine Ends.seq ?_
    refine Wp.seq ?_
    refine Wp.region ?_
    refine Ops.ef rfl (ef_buildSlice0 rfl) ?_
    rintro _ _ ⟨b1, rfl, rfl⟩
    refine Ops.pv (pv_move rfl) rfl ?_
    refine Ops.ef rfl (ef_appendV (H := [(b1, .cells ([] : List Value).toArray 3)]) rfl (slc_empty 3 b1) rfl (hv.mono (by intro p hp; simp [hp])) (intsC_one l) (by omega) (by omega) rfl rfl) ?_
    rintro _ _ ⟨v1, H1, hs1, rfl, rfl⟩
    refine Ops.app ?_
    skip
    refine Ops.pv (pv_assign rfl) rfl ?_
    refine Ops.nil ?_
    refine Ends.seq ?_
    refine Wp.ret ?_
    rw [Nat.zero_add, List.nil_append] at hs1
    exact Ends.ret (L' := H1 ++ G) (res1 rfl rfl) ⟨H1, hs1, rfl⟩

theorem tr_grow (n : Nat) (hn : n ≤ 2 ^ 40) : Tr Try.prog 49 [.slice none 0 0, .int .i64 n] ([]) (fun v L' => Slc 3 1 v 0 [] L') := by
  refine Tr.enter Try.func49 rfl Try.ntmps49 rfl (fun W F => ?_)
  refine Wp.app ?_
  refine Wp.seq ?_
  refine Wp.region ?_
  refine Ops.pv (pv_assign rfl) rfl ?_
  refine Ops.nil ?_
  refine Ends.seq ?_
  refine Wp.seq ?_
  refine Wp.seq ?_
  refine Wp.region ?_
  refine Ops.pv (pv_move rfl) rfl ?_
  refine Ops.pv ((pv_lss rfl rfl).fls (by omega)) rfl ?_
  refine Ops.nil ?_
  refine Ends.seq ?_
  refine Wp.cond_false rfl ?_
  refine Wp.skip ?_
  refine Ends.seq ?_
  refine Wp.seq ?_
  refine Wp.seq ?_
  refine Wp.region ?_
  refine Ops.pv (pv_move rfl) rfl ?_
  refine Ops.pv (pv_move rfl) rfl ?_
  refine Ops.pv (pv_cap_slice (T := 40) rfl rfl) rfl ?_
  refine Ops.pv (pv_move rfl) rfl ?_
  refine Ops.pv (pv_len_slice (T := 40) rfl rfl) rfl ?_
  refine Ops.pv (pv_sub rfl rfl (w64 (i := (0 : Int) - 0) (by omega) (by omega))) rfl ?_
  refine Ops.pv (pv_sub rfl rfl (w64n (k := n) (by omega) (by omega))) rfl ?_
  refine Ops.pv (pv_assign rfl) rfl ?_
  refine Ops.nil ?_
  refine Ends.seq ?_
  refine Wp.seq ?_
  refine Wp.region ?_
  refine Ops.pv (pv_move rfl) rfl ?_
  refine Ops.pv (pv_gtr rfl rfl) rfl ?_
  refine Ops.nil ?_
  refine Ends.seq ?_
  first | refine Wp.cond_dect rfl (fun h1 => ?_) (fun h1 => ?_) | refine Wp.cond_t rfl (fun h1 => ?_) (fun h1 => ?_)
  · refine Wp.region ?_
    refine Ops.pv (pv_move rfl) rfl ?_
    refine Ops.pv (pv_move rfl) rfl ?_
    refine Ops.pv (pv_cap_slice (T := 40) rfl rfl) rfl ?_
    refine Ops.pv (pv_sliceTo rfl ⟨_, rfl⟩ (Nat.le_refl 0)) rfl ?_
    refine Ops.pv (pv_move rfl) rfl ?_
    refine Ops.ef rfl (ef_appendZ (sz := 1) (k := n) rfl rfl (by omega) (by omega) (by omega) rfl rfl (by decide)) ?_
    rintro _ _ ⟨b1, c1, cs1, hc1, hk1, rfl, rfl⟩
    refine Ops.pv (pv_move rfl) rfl ?_
    refine Ops.pv (pv_len_slice (T := 40) rfl rfl) rfl ?_
    refine Ops.pv (pv_sliceTo (j := 0) rfl ⟨_, rfl⟩ (Nat.zero_le _)) rfl ?_
    refine Ops.pv (pv_assign rfl) rfl ?_
    refine Ops.nil ?_
    refine Ends.seq ?_
    refine Wp.seq ?_
    refine Wp.region ?_
    refine Ops.pv (pv_move rfl) rfl ?_
    refine Ops.pv (pv_assign rfl) rfl ?_
    refine Ops.nil ?_
    refine Ends.seq ?_
    refine Wp.ret ?_
    exact Ends.ret (L' := [(b1, .cells (cs1 : List Value).toArray 3)]) (res1 rfl rfl) ⟨rfl, .inr ⟨b1, [], cs1, c1, rfl, Nat.zero_le _, by omega, by simp⟩⟩
  · refine Wp.skip ?_
    refine Ends.seq ?_
    refine Wp.seq ?_
    refine Wp.region ?_
    refine Ops.pv (pv_move rfl) rfl ?_
    refine Ops.pv (pv_assign rfl) rfl ?_
    refine Ops.nil ?_
    refine Ends.seq ?_
    refine Wp.ret ?_
    exact Ends.ret (L' := []) (res1 rfl rfl) (Slc.nil _ _)

theorem tr_concat (G : Hp) (bx cx : Nat) (ss : List SV) (hv : ∀ s, s ∈ ss → View G 1 s.v s.l.length (intsC s.l)) (hl : (catM ss).length ≤ 2 ^ 40) (hs : ss.length ≤ 2 ^ 40) : Tr Try.prog 47 [.slice (some ⟨bx, 0, none⟩) ss.length cx] ((bx, .cells (ss.map SV.v).toArray 40) :: G) (fun v L' => ∃ H, Slc 3 1 v (catM ss).length (intsC (catM ss)) H ∧ L' = H ++ ((bx, .cells (ss.map SV.v).toArray 40) :: G)) := by
  refine Tr.enter Try.func47 rfl Try.ntmps47 rfl (fun W F => ?_)
  refine Wp.app ?_
  refine Wp.seq ?_
  refine Wp.region ?_
  refine Ops.pv (pv_assign rfl) rfl ?_
  refine Ops.nil ?_
  refine Ends.seq ?_
  refine Wp.seq ?_
  refine Wp.region ?_
  refine Ops.pv (pv_assign rfl) rfl ?_
  refine Ops.nil ?_
  refine Ends.seq ?_
  refine Wp.seq ?_
  refine Wp.seq ?_
  refine Wp.region ?_
  refine Ops.pv (pv_move rfl) rfl ?_
  refine Ops.pv (pv_len_slice (T := 86) rfl rfl) rfl ?_
  refine Ops.pv (pv_move rfl) rfl ?_
  refine Ops.nil ?_
  refine Ends.seq ?_
  refine Wp.block ?_
  refine Wp.loop (σ := Nat) (fun i => [(0, .slice (some ⟨bx, 0, none⟩) ss.length cx), (2, .slice none 0 0), (3, .int .i64 (catUpto ss i).length), (9, .slice (some ⟨bx, 0, none⟩) ss.length cx), (10, .int .i64 ss.length), (11, .int .i64 i)]) (fun _ => (bx, .cells (ss.map SV.v).toArray 40) :: (G ++ F)) (fun i => i ≤ ss.length) (fun i => ss.length - i) 0 (Nat.zero_le _) (by exact ⟨rfl, rfl, rfl, rfl, rfl, rfl, trivial⟩) (by intro w ho; exact ho) ?_
  intro i K hi hK
  refine Wp.seq ?_
  refine Wp.region ?_
  refine Ops.pv (pv_lss rfl rfl) rfl ?_
  refine Ops.nil ?_
  refine Ends.seq ?_
  refine Wp.seq ?_
  first | refine Wp.cond_dect rfl (fun h1 => ?_) (fun h1 => ?_) | refine Wp.cond_t rfl (fun h1 => ?_) (fun h1 => ?_)
  · obtain ⟨s, hsi⟩ : ∃ s, ss[i]? = some s := ⟨_, List.getElem?_eq_getElem (by omega)⟩
    have hcs := catUpto_succ hsi
    have hcl := catUpto_len ss (i + 1)
    have hcl2 : (catUpto ss (i + 1)).length = (catUpto ss i).length + s.l.length := by rw [hcs, List.length_append]
    refine Wp.skip ?_
    refine Ends.seq ?_
    refine Wp.seq ?_
    refine Wp.block ?_
    refine Wp.seq ?_
    refine Wp.region ?_
    refine Ops.pv (pv_indexAddr (i := i) rfl rfl rfl (by omega)) rfl ?_
    refine Ops.pv (pv_load rfl rfl (sv_nth hsi)) rfl ?_
    refine Ops.pv (pv_assign rfl) rfl ?_
    refine Ops.nil ?_
    refine Ends.seq ?_
    refine Wp.seq ?_
    refine Wp.region ?_
    refine Ops.pv (pv_move rfl) rfl ?_
    refine Ops.pv (pv_move rfl) rfl ?_
    refine Ops.pv (pv_len_slice (T := 40) rfl rfl) rfl ?_
    refine Ops.pv (pv_add rfl rfl (w64n (k := (catUpto ss (i + 1)).length) (by omega) (by omega))) rfl ?_
    refine Ops.pv (pv_assign rfl) rfl ?_
    refine Ops.nil ?_
    refine Ends.seq ?_
    refine Wp.seq ?_
    refine Wp.region ?_
    refine Ops.pv (pv_move rfl) rfl ?_
    refine Ops.pv ((pv_lss rfl rfl).fls (by omega)) rfl ?_
    refine Ops.nil ?_
    refine Ends.seq ?_
    refine Wp.cond_false rfl ?_
    refine Wp.skip ?_
    refine Ends.block_normal ?_
    refine Ends.seq ?_
    refine Wp.region ?_
    first | refine Ops.pv (pv_add rfl rfl (w64 (by omega) (by omega))) rfl ?_ | refine Ops.pv (pv_add rfl rfl rfl) rfl ?_
    refine Ops.pv (pv_move rfl) rfl ?_
    refine Ops.nil ?_
    refine Ends.goes ?_
    refine Goes.back (hK (i + 1) (by omega) (by omega)) ⟨rfl, rfl, rfl, rfl, rfl, rfl, trivial⟩
  · obtain rfl : i = ss.length := by omega
    have hcall := catUpto_all ss
    refine Wp.exit ?_
    refine Ends.then_exit ?_
    refine Ends.then_exit ?_
    refine Ends.block_hit ?_
    refine Ends.seq ?_
    refine Wp.seq ?_
    refine Wp.region ?_
    refine Ops.pv (pv_move rfl) rfl ?_
    rw [hcall]
    refine Ops.ef rfl (ef_call (tr_grow (catM ss).length hl) rfl rfl) ?_
    rintro _ _ ⟨_, _, hg1, rfl, rfl⟩
    refine Ops.app ?_
    skip
    refine Ops.pv (pv_assign rfl) rfl ?_
    refine Ops.nil ?_
    refine Ends.seq ?_
    refine Wp.seq ?_
    refine Wp.seq ?_
    refine Wp.region ?_
    refine Ops.pv (pv_move rfl) rfl ?_
    refine Ops.pv (pv_len_slice (T := 86) rfl rfl) rfl ?_
    refine Ops.pv (pv_move rfl) rfl ?_
    refine Ops.nil ?_
    refine Ends.seq ?_
    refine Wp.block ?_
    refine Wp.loop (σ := Nat × Value × Hp) (fun x => [(2, .slice none 0 0), (6, x.2.1), (25, .slice (some ⟨bx, 0, none⟩) ss.length cx), (26, .int .i64 ss.length), (27, .int .i64 x.1)]) (fun x => x.2.2 ++ ((bx, .cells (ss.map SV.v).toArray 40) :: (G ++ F))) (fun x => x.1 ≤ ss.length ∧ Slc 3 1 x.2.1 (catUpto ss x.1).length (intsC (catUpto ss x.1)) x.2.2) (fun x => ss.length - x.1) (0, _, _) ⟨Nat.zero_le _, hg1⟩ (by exact ⟨rfl, rfl, rfl, rfl, rfl, trivial⟩) (by intro w ho; exact ho) ?_
    rintro ⟨i, v, H⟩ K ⟨hi, hs2⟩ hK
    dsimp only at hi hs2 hK ⊢
    refine Wp.seq ?_
    refine Wp.region ?_
    refine Ops.pv (pv_lss rfl rfl) rfl ?_
    refine Ops.nil ?_
    refine Ends.seq ?_
    refine Wp.seq ?_
    first | refine Wp.cond_dect rfl (fun h2 => ?_) (fun h2 => ?_) | refine Wp.cond_t rfl (fun h2 => ?_) (fun h2 => ?_)
    · obtain ⟨s, hsi⟩ : ∃ s, ss[i]? = some s := ⟨_, List.getElem?_eq_getElem (by omega)⟩
      have hcs := catUpto_succ hsi
      have hcl := catUpto_len ss (i + 1)
      have hcl2 : (catUpto ss (i + 1)).length = (catUpto ss i).length + s.l.length := by rw [hcs, List.length_append]
      have hvs := hv s (List.mem_of_getElem? hsi)
      refine Wp.skip ?_
      refine Ends.seq ?_
      refine Wp.seq ?_
      refine Wp.block ?_
      refine Wp.seq ?_
      refine Wp.region ?_
      refine Ops.pv (pv_indexAddr (i := i) rfl rfl rfl (by omega)) rfl ?_
      refine Ops.pv (pv_load rfl rfl (sv_nth hsi)) rfl ?_
      refine Ops.pv (pv_assign rfl) rfl ?_
      refine Ops.nil ?_
      refine Ends.seq ?_
      refine Wp.region ?_
      refine Ops.pv (pv_move rfl) rfl ?_
      refine Ops.pv (pv_move rfl) rfl ?_
      refine Ops.ef rfl (ef_appendV (H := H) rfl hs2 rfl (hvs.mono (by intro p hp; simp [hp])) (intsC_one s.l) (by omega) (by omega) rfl rfl) ?_
      rintro _ _ ⟨v1, H1, hs1, rfl, rfl⟩
      refine Ops.app ?_
      skip
      refine Ops.pv (pv_assign rfl) rfl ?_
      refine Ops.nil ?_
      refine Ends.block_normal ?_
      refine Ends.seq ?_
      refine Wp.region ?_
      first | refine Ops.pv (pv_add rfl rfl (w64 (by omega) (by omega))) rfl ?_ | refine Ops.pv (pv_add rfl rfl rfl) rfl ?_
      refine Ops.pv (pv_move rfl) rfl ?_
      refine Ops.nil ?_
      refine Ends.goes ?_
      refine Goes.back (hK (i + 1, v1, H1) ⟨by dsimp only; omega, ?_⟩ (by dsimp only; omega)) ⟨rfl, rfl, rfl, rfl, rfl, trivial⟩
      dsimp only; rw [hcs, List.length_append, intsC_app]; exact hs1
    · obtain rfl : i = ss.length := by omega
      refine Wp.exit ?_
      refine Ends.then_exit ?_
      refine Ends.then_exit ?_
      refine Ends.block_hit ?_
      refine Ends.seq ?_
      refine Wp.seq ?_
      refine Wp.region ?_
      refine Ops.pv (pv_move rfl) rfl ?_
      refine Ops.pv (pv_assign rfl) rfl ?_
      refine Ops.nil ?_
      refine Ends.seq ?_
      refine Wp.ret ?_
      rw [catUpto_all] at hs2
      exact Ends.ret (L' := H ++ ((bx, .cells (ss.map SV.v).toArray 40) :: G)) (res1 rfl rfl) ⟨H, hs2, rfl⟩

theorem tr_concat2 (G : Hp) (bx cx : Nat) (a1 a2 : Option Addr) (c1 c2 : Nat) (l1 l2 : List Int) (hv1 : View G 1 (.slice a1 l1.length c1) l1.length (intsC l1)) (hv2 : View G 1 (.slice a2 l2.length c2) l2.length (intsC l2)) (hl : (l1 ++ l2).length ≤ 2 ^ 40) :
    Tr Try.prog 47 [.slice (some ⟨bx, 0, none⟩) 2 cx] ((bx, .cells [.slice a1 l1.length c1, .slice a2 l2.length c2].toArray 40) :: G) (fun v L' => ∃ H, Slc 3 1 v (l1 ++ l2).length (intsC (l1 ++ l2)) H ∧ L' = H ++ ((bx, .cells [.slice a1 l1.length c1, .slice a2 l2.length c2].toArray 40) :: G)) := by
  have e : catM [⟨a1, c1, l1⟩, ⟨a2, c2, l2⟩] = l1 ++ l2 := by simp [catM]
  have h := tr_concat G bx cx [⟨a1, c1, l1⟩, ⟨a2, c2, l2⟩] (forall_two (p := fun s => View G 1 s.v s.l.length (intsC s.l)) hv1 hv2) (by rw [e]; exact hl) (by simp)
  rw [e] at h
  exact h

end Go.Proofs.Ytpjodkcghiklcab
