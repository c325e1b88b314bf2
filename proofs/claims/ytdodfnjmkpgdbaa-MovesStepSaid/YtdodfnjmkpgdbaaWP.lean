/- Walks of the library's Index, Contains, Clone, Grow and Concat over pointers: each answers as its plain function says. No condition. -/
import Derived.Test.YtdodfnjmkpgdbaaSP
import Derived.Test.YtdodfnjmkpgdbaaSLT
set_option linter.unusedVariables false
set_option linter.unusedSimpArgs false
namespace Go.Proofs.Ytdodfnjmkpgdbaa
open Go.SL

theorem tr_index (G : Hp) (a : Option Addr) (c : Nat) (l : List Nat) (x : Nat) (hv : View G 1 (.slice a l.length c) l.length (ptsC l)) (hl : l.length ≤ 2 ^ 40) (hcl : ∀ b, b ∈ l → isC G b) (hcx : isC G x) : TrR Try.prog 78 [.slice a l.length c, .pointer (some ⟨x, 0, none⟩)] (G) (.int .i64 (idxN l x)) := by
  refine Tr.enter Try.func78 rfl Try.ntmps78 rfl (fun W F => ?_)
  refine Wp.app ?_
  refine Wp.seq ?_
  refine Wp.region ?_
  refine Ops.pv (pv_assign rfl) rfl ?_
  refine Ops.nil ?_
  refine Ends.seq ?_
  refine Wp.seq ?_
  refine Wp.seq ?_
  refine Wp.region ?_
  refine Ops.pv (pv_move rfl) rfl ?_
  refine Ops.pv (pv_len_slice (T := 110) rfl rfl) rfl ?_
  refine Ops.pv (pv_move rfl) rfl ?_
  refine Ops.nil ?_
  refine Ends.seq ?_
  refine Wp.block ?_
  refine Wp.loop (σ := Nat) (fun i => [(0, .slice a l.length c), (1, .pointer (some ⟨x, 0, none⟩)), (4, .int .i64 0), (7, .int .i64 l.length), (8, .int .i64 i)]) (fun _ => G ++ F) (fun i => i ≤ l.length ∧ ∀ j, j < i → l[j]? ≠ some x) (fun i => l.length - i) 0 ⟨Nat.zero_le _, fun j hj => absurd hj (Nat.not_lt_zero j)⟩ (by exact ⟨rfl, rfl, rfl, rfl, rfl, trivial⟩) (by intro w ho; exact ho) ?_
  rintro i K ⟨hi, hn⟩ hK
  refine Wp.seq ?_
  refine Wp.region ?_
  refine Ops.pv (pv_lss rfl rfl) rfl ?_
  refine Ops.nil ?_
  refine Ends.seq ?_
  refine Wp.seq ?_
  first | refine Wp.cond_dect rfl (fun h1 => ?_) (fun h1 => ?_) | refine Wp.cond_t rfl (fun h1 => ?_) (fun h1 => ?_)
  · obtain ⟨b, o, cap, cc, T, f, hv1, hbv, hr⟩ := hv.open (by omega)
    cases hv1
    obtain ⟨y, hy⟩ : ∃ y, l[i]? = some y := ⟨_, List.getElem?_eq_getElem (by omega)⟩
    have hny := pts_nth hr hy
    have hcy := (hcl y (List.mem_of_getElem? hy)).mono (M := G ++ F) (fun p hp => List.mem_append_left _ hp)
    have hcx2 := hcx.mono (M := G ++ F) (fun p hp => List.mem_append_left _ hp)
    refine Wp.skip ?_
    refine Ends.seq ?_
    refine Wp.seq ?_
    refine Wp.block ?_
    refine Wp.seq ?_
    refine Wp.region ?_
    refine Ops.pv (pv_move rfl) rfl ?_
    refine Ops.pv (pv_assign rfl) rfl ?_
    refine Ops.nil ?_
    refine Ends.seq ?_
    refine Wp.seq ?_
    refine Wp.region ?_
    refine Ops.pv (pv_move rfl) rfl ?_
    refine Ops.pv (pv_move rfl) rfl ?_
    refine Ops.pv (pv_move rfl) rfl ?_
    refine Ops.pv (pv_indexAddr (i := i) rfl rfl rfl (by omega)) rfl ?_
    refine Ops.pv (pv_load rfl rfl hny) rfl ?_
    refine Ops.pv (pv_eql_ptr rfl rfl hcx2 hcy (by decide)) rfl ?_
    refine Ops.nil ?_
    refine Ends.seq ?_
    first | refine Wp.cond_dect rfl (fun h2 => ?_) (fun h2 => ?_) | refine Wp.cond_t rfl (fun h2 => ?_) (fun h2 => ?_)
    · refine Wp.seq ?_
      refine Wp.region ?_
      refine Ops.pv (pv_move rfl) rfl ?_
      refine Ops.pv (pv_assign rfl) rfl ?_
      refine Ops.nil ?_
      refine Ends.seq ?_
      refine Wp.ret ?_
      refine Ends.block_ret ?_
      refine Ends.then_ret ?_
      refine Ends.then_ret ?_
      refine Ends.block_ret ?_
      refine Ends.then_ret ?_
      exact Ends.ret (res1 rfl rfl) ⟨by rw [idxN_hit (i := i) (by rw [hy]; congr 1; omega) hn], rfl⟩
    · refine Wp.skip ?_
      refine Ends.block_normal ?_
      refine Ends.seq ?_
      refine Wp.region ?_
      first | refine Ops.pv (pv_add rfl rfl (w64 (by omega) (by omega))) rfl ?_ | refine Ops.pv (pv_add rfl rfl rfl) rfl ?_
      refine Ops.pv (pv_move rfl) rfl ?_
      refine Ops.nil ?_
      refine Ends.goes ?_
      refine Goes.back (hK (i + 1) ⟨by omega, fun j hj => ?_⟩ (by omega)) ⟨rfl, rfl, rfl, rfl, rfl, trivial⟩
      rcases Nat.lt_succ_iff_lt_or_eq.1 hj with hj | rfl
      · exact hn j hj
      · rw [hy]; intro e; cases e; omega
  · refine Wp.exit ?_
    refine Ends.then_exit ?_
    refine Ends.then_exit ?_
    refine Ends.block_hit ?_
    refine Ends.seq ?_
    refine Wp.seq ?_
    refine Wp.region ?_
    refine Ops.pv (pv_assign rfl) rfl ?_
    refine Ops.nil ?_
    refine Ends.seq ?_
    refine Wp.ret ?_
    exact Ends.ret (res1 rfl rfl) ⟨by rw [idxN_miss (fun j hj => hn j (by omega))], rfl⟩

theorem tr_clone (G : Hp) (a : Option Addr) (c : Nat) (l : List Nat) (hv : View G 1 (.slice a l.length c) l.length (ptsC l)) (hl : l.length ≤ 2 ^ 40) : Tr Try.prog 71 [.slice a l.length c] (G) (fun v L' => ∃ H, Slc 109 1 v l.length (ptsC l) H ∧ L' = H ++ G) := by
  refine Tr.enter Try.func71 rfl Try.ntmps71 rfl (fun W F => ?_)
  refine Wp.app ?_
  refine Wp.seq ?_
  refine Wp.region ?_
  refine Ops.pv (pv_assign rfl) rfl ?_
  refine Ops.nil ?_
  refine Ends.seq ?_
  refine Wp.seq ?_
  refine Wp.seq ?_
  refine Wp.region ?_
  refine Ops.pv (pv_move rfl) rfl ?_
  refine Ops.pv (pv_eql_slcnil rfl rfl) rfl ?_
  refine Ops.nil ?_
  refine Ends.seq ?_
  refine Wp.cond_t rfl (fun h1 => ?_) (fun h1 => ?_)
  · obtain rfl := Option.isNone_iff_eq_none.1 h1
    obtain ⟨e0, e1⟩ := view_nil' hv
    refine Wp.seq ?_
    refine Wp.region ?_
    refine Ops.pv (pv_assign rfl) rfl ?_
    refine Ops.nil ?_
    refine Ends.seq ?_
    refine Wp.ret ?_
    refine Ends.then_ret ?_
    exact Ends.ret (L' := G) (res1 rfl rfl) ⟨[], by rw [e0, e1]; exact Slc.nil _ _, rfl⟩
  · refine Wp.skip ?_
    refine Ends.seq ?_
    refine Wp.seq ?_
    refine Wp.region ?_
    refine Ops.ef rfl (ef_buildSlice0 rfl) ?_
    rintro _ _ ⟨b1, rfl, rfl⟩
    refine Ops.pv (pv_move rfl) rfl ?_
    refine Ops.ef rfl (ef_appendV (H := [(b1, .cells ([] : List Value).toArray 109)]) rfl (slc_empty' 109 1 b1) rfl (hv.mono (by intro p hp; simp [hp])) (ptsC_one l) (by omega) (by omega) rfl rfl) ?_
    rintro _ _ ⟨v1, H1, hs1, rfl, rfl⟩
    refine Ops.app ?_
    skip
    refine Ops.pv (pv_assign rfl) rfl ?_
    refine Ops.nil ?_
    refine Ends.seq ?_
    refine Wp.ret ?_
    rw [Nat.zero_add, List.nil_append] at hs1
    exact Ends.ret (L' := H1 ++ G) (res1 rfl rfl) ⟨H1, hs1, rfl⟩

theorem tr_grow (n : Nat) (hn : n ≤ 2 ^ 40) : Tr Try.prog 89 [.slice none 0 0, .int .i64 n] ([]) (fun v L' => Slc 109 1 v 0 [] L') := by
  refine Tr.enter Try.func89 rfl Try.ntmps89 rfl (fun W F => ?_)
  refine Wp.app ?_
  refine Wp.seq ?_
  refine Wp.region ?_
  refine Ops.pv (pv_assign rfl) rfl ?_
  refine Ops.nil ?_
  refine Ends.seq ?_
  refine Wp.seq ?_
  refine Wp.seq ?_
  refine Wp.region ?_
  refine Ops.pv (pv_move rfl) rfl ?_
  refine Ops.pv ((pv_lss rfl rfl).fls (by omega)) rfl ?_
  refine Ops.nil ?_
  refine Ends.seq ?_
  refine Wp.cond_false rfl ?_
  refine Wp.skip ?_
  refine Ends.seq ?_
  refine Wp.seq ?_
  refine Wp.seq ?_
  refine Wp.region ?_
  refine Ops.pv (pv_move rfl) rfl ?_
  refine Ops.pv (pv_move rfl) rfl ?_
  refine Ops.pv (pv_cap_slice (T := 110) rfl rfl) rfl ?_
  refine Ops.pv (pv_move rfl) rfl ?_
  refine Ops.pv (pv_len_slice (T := 110) rfl rfl) rfl ?_
  refine Ops.pv (pv_sub rfl rfl (w64 (i := (0 : Int) - 0) (by omega) (by omega))) rfl ?_
  refine Ops.pv (pv_sub rfl rfl (w64n (k := n) (by omega) (by omega))) rfl ?_
  refine Ops.pv (pv_assign rfl) rfl ?_
  refine Ops.nil ?_
  refine Ends.seq ?_
  refine Wp.seq ?_
  refine Wp.region ?_
  refine Ops.pv (pv_move rfl) rfl ?_
  refine Ops.pv (pv_gtr rfl rfl) rfl ?_
  refine Ops.nil ?_
  refine Ends.seq ?_
  first | refine Wp.cond_dect rfl (fun h1 => ?_) (fun h1 => ?_) | refine Wp.cond_t rfl (fun h1 => ?_) (fun h1 => ?_)
  · refine Wp.region ?_
    refine Ops.pv (pv_move rfl) rfl ?_
    refine Ops.pv (pv_move rfl) rfl ?_
    refine Ops.pv (pv_cap_slice (T := 110) rfl rfl) rfl ?_
    refine Ops.pv (pv_sliceTo rfl ⟨_, rfl⟩ (Nat.le_refl 0)) rfl ?_
    refine Ops.pv (pv_move rfl) rfl ?_
    refine Ops.ef rfl (ef_appendZ (sz := 1) (k := n) rfl rfl (by omega) (by omega) (by omega) rfl rfl (by decide)) ?_
    rintro _ _ ⟨b1, c1, cs1, hc1, hk1, rfl, rfl⟩
    refine Ops.pv (pv_move rfl) rfl ?_
    refine Ops.pv (pv_len_slice (T := 110) rfl rfl) rfl ?_
    refine Ops.pv (pv_sliceTo (j := 0) rfl ⟨_, rfl⟩ (Nat.zero_le _)) rfl ?_
    refine Ops.pv (pv_assign rfl) rfl ?_
    refine Ops.nil ?_
    refine Ends.seq ?_
    refine Wp.seq ?_
    refine Wp.region ?_
    refine Ops.pv (pv_move rfl) rfl ?_
    refine Ops.pv (pv_assign rfl) rfl ?_
    refine Ops.nil ?_
    refine Ends.seq ?_
    refine Wp.ret ?_
    exact Ends.ret (L' := [(b1, .cells (cs1 : List Value).toArray 109)]) (res1 rfl rfl) ⟨rfl, .inr ⟨b1, [], cs1, c1, rfl, Nat.zero_le _, by omega, by simp⟩⟩
  · refine Wp.skip ?_
    refine Ends.seq ?_
    refine Wp.seq ?_
    refine Wp.region ?_
    refine Ops.pv (pv_move rfl) rfl ?_
    refine Ops.pv (pv_assign rfl) rfl ?_
    refine Ops.nil ?_
    refine Ends.seq ?_
    refine Wp.ret ?_
    exact Ends.ret (L' := []) (res1 rfl rfl) (Slc.nil _ _)

theorem tr_concat (G : Hp) (bx cx : Nat) (ss : List SP) (hv : ∀ s, s ∈ ss → View G 1 s.v s.l.length (ptsC s.l)) (hl : (catP ss).length ≤ 2 ^ 40) (hs : ss.length ≤ 2 ^ 40) : Tr Try.prog 72 [.slice (some ⟨bx, 0, none⟩) ss.length cx] ((bx, .cells (ss.map SP.v).toArray 110) :: G) (fun v L' => ∃ H, Slc 109 1 v (catP ss).length (ptsC (catP ss)) H ∧ L' = H ++ ((bx, .cells (ss.map SP.v).toArray 110) :: G)) := by
  refine Tr.enter Try.func72 rfl Try.ntmps72 rfl (fun W F => ?_)
  refine Wp.app ?_
  refine Wp.seq ?_
  refine Wp.region ?_
  refine Ops.pv (pv_assign rfl) rfl ?_
  refine Ops.nil ?_
  refine Ends.seq ?_
  refine Wp.seq ?_
  refine Wp.region ?_
  refine Ops.pv (pv_assign rfl) rfl ?_
  refine Ops.nil ?_
  refine Ends.seq ?_
  refine Wp.seq ?_
  refine Wp.seq ?_
  refine Wp.region ?_
  refine Ops.pv (pv_move rfl) rfl ?_
  refine Ops.pv (pv_len_slice (T := 127) rfl rfl) rfl ?_
  refine Ops.pv (pv_move rfl) rfl ?_
  refine Ops.nil ?_
  refine Ends.seq ?_
  refine Wp.block ?_
  refine Wp.loop (σ := Nat) (fun i => [(0, .slice (some ⟨bx, 0, none⟩) ss.length cx), (2, .slice none 0 0), (3, .int .i64 (catPto ss i).length), (9, .slice (some ⟨bx, 0, none⟩) ss.length cx), (10, .int .i64 ss.length), (11, .int .i64 i)]) (fun _ => (bx, .cells (ss.map SP.v).toArray 110) :: (G ++ F)) (fun i => i ≤ ss.length) (fun i => ss.length - i) 0 (Nat.zero_le _) (by exact ⟨rfl, rfl, rfl, rfl, rfl, rfl, trivial⟩) (by intro w ho; exact ho) ?_
  intro i K hi hK
  refine Wp.seq ?_
  refine Wp.region ?_
  refine Ops.pv (pv_lss rfl rfl) rfl ?_
  refine Ops.nil ?_
  refine Ends.seq ?_
  refine Wp.seq ?_
  first | refine Wp.cond_dect rfl (fun h1 => ?_) (fun h1 => ?_) | refine Wp.cond_t rfl (fun h1 => ?_) (fun h1 => ?_)
  · obtain ⟨s, hsi⟩ : ∃ s, ss[i]? = some s := ⟨_, List.getElem?_eq_getElem (by omega)⟩
    have hcs := catPto_succ hsi
    have hcl := catPto_len ss (i + 1)
    have hcl2 : (catPto ss (i + 1)).length = (catPto ss i).length + s.l.length := by rw [hcs, List.length_append]
    refine Wp.skip ?_
    refine Ends.seq ?_
    refine Wp.seq ?_
    refine Wp.block ?_
    refine Wp.seq ?_
    refine Wp.region ?_
    refine Ops.pv (pv_indexAddr (i := i) rfl rfl rfl (by omega)) rfl ?_
    refine Ops.pv (pv_load rfl rfl (sp_nth hsi)) rfl ?_
    refine Ops.pv (pv_assign rfl) rfl ?_
    refine Ops.nil ?_
    refine Ends.seq ?_
    refine Wp.seq ?_
    refine Wp.region ?_
    refine Ops.pv (pv_move rfl) rfl ?_
    refine Ops.pv (pv_move rfl) rfl ?_
    refine Ops.pv (pv_len_slice (T := 110) rfl rfl) rfl ?_
    refine Ops.pv (pv_add rfl rfl (w64n (k := (catPto ss (i + 1)).length) (by omega) (by omega))) rfl ?_
    refine Ops.pv (pv_assign rfl) rfl ?_
    refine Ops.nil ?_
    refine Ends.seq ?_
    refine Wp.seq ?_
    refine Wp.region ?_
    refine Ops.pv (pv_move rfl) rfl ?_
    refine Ops.pv ((pv_lss rfl rfl).fls (by omega)) rfl ?_
    refine Ops.nil ?_
    refine Ends.seq ?_
    refine Wp.cond_false rfl ?_
    refine Wp.skip ?_
    refine Ends.block_normal ?_
    refine Ends.seq ?_
    refine Wp.region ?_
    first | refine Ops.pv (pv_add rfl rfl (w64 (by omega) (by omega))) rfl ?_ | refine Ops.pv (pv_add rfl rfl rfl) rfl ?_
    refine Ops.pv (pv_move rfl) rfl ?_
    refine Ops.nil ?_
    refine Ends.goes ?_
    refine Goes.back (hK (i + 1) (by omega) (by omega)) ⟨rfl, rfl, rfl, rfl, rfl, rfl, trivial⟩
  · obtain rfl : i = ss.length := by omega
    have hcall := catPto_all ss
    refine Wp.exit ?_
    refine Ends.then_exit ?_
    refine Ends.then_exit ?_
    refine Ends.block_hit ?_
    refine Ends.seq ?_
    refine Wp.seq ?_
    refine Wp.region ?_
    refine Ops.pv (pv_move rfl) rfl ?_
    rw [hcall]
    refine Ops.ef rfl (ef_call (tr_grow (catP ss).length hl) rfl rfl) ?_
    rintro _ _ ⟨_, _, hg1, rfl, rfl⟩
    refine Ops.app ?_
    skip
    refine Ops.pv (pv_assign rfl) rfl ?_
    refine Ops.nil ?_
    refine Ends.seq ?_
    refine Wp.seq ?_
    refine Wp.seq ?_
    refine Wp.region ?_
    refine Ops.pv (pv_move rfl) rfl ?_
    refine Ops.pv (pv_len_slice (T := 127) rfl rfl) rfl ?_
    refine Ops.pv (pv_move rfl) rfl ?_
    refine Ops.nil ?_
    refine Ends.seq ?_
    refine Wp.block ?_
    refine Wp.loop (σ := Nat × Value × Hp) (fun x => [(2, .slice none 0 0), (6, x.2.1), (25, .slice (some ⟨bx, 0, none⟩) ss.length cx), (26, .int .i64 ss.length), (27, .int .i64 x.1)]) (fun x => x.2.2 ++ ((bx, .cells (ss.map SP.v).toArray 110) :: (G ++ F))) (fun x => x.1 ≤ ss.length ∧ Slc 109 1 x.2.1 (catPto ss x.1).length (ptsC (catPto ss x.1)) x.2.2) (fun x => ss.length - x.1) (0, _, _) ⟨Nat.zero_le _, hg1⟩ (by exact ⟨rfl, rfl, rfl, rfl, rfl, trivial⟩) (by intro w ho; exact ho) ?_
    rintro ⟨i, v, H⟩ K ⟨hi, hs2⟩ hK
    dsimp only at hi hs2 hK ⊢
    refine Wp.seq ?_
    refine Wp.region ?_
    refine Ops.pv (pv_lss rfl rfl) rfl ?_
    refine Ops.nil ?_
    refine Ends.seq ?_
    refine Wp.seq ?_
    first | refine Wp.cond_dect rfl (fun h2 => ?_) (fun h2 => ?_) | refine Wp.cond_t rfl (fun h2 => ?_) (fun h2 => ?_)
    · obtain ⟨s, hsi⟩ : ∃ s, ss[i]? = some s := ⟨_, List.getElem?_eq_getElem (by omega)⟩
      have hcs := catPto_succ hsi
      have hcl := catPto_len ss (i + 1)
      have hcl2 : (catPto ss (i + 1)).length = (catPto ss i).length + s.l.length := by rw [hcs, List.length_append]
      have hvs := hv s (List.mem_of_getElem? hsi)
      refine Wp.skip ?_
      refine Ends.seq ?_
      refine Wp.seq ?_
      refine Wp.block ?_
      refine Wp.seq ?_
      refine Wp.region ?_
      refine Ops.pv (pv_indexAddr (i := i) rfl rfl rfl (by omega)) rfl ?_
      refine Ops.pv (pv_load rfl rfl (sp_nth hsi)) rfl ?_
      refine Ops.pv (pv_assign rfl) rfl ?_
      refine Ops.nil ?_
      refine Ends.seq ?_
      refine Wp.region ?_
      refine Ops.pv (pv_move rfl) rfl ?_
      refine Ops.pv (pv_move rfl) rfl ?_
      refine Ops.ef rfl (ef_appendV (H := H) rfl hs2 rfl (hvs.mono (by intro p hp; simp [hp])) (ptsC_one s.l) (by omega) (by omega) rfl rfl) ?_
      rintro _ _ ⟨v1, H1, hs1, rfl, rfl⟩
      refine Ops.app ?_
      skip
      refine Ops.pv (pv_assign rfl) rfl ?_
      refine Ops.nil ?_
      refine Ends.block_normal ?_
      refine Ends.seq ?_
      refine Wp.region ?_
      first | refine Ops.pv (pv_add rfl rfl (w64 (by omega) (by omega))) rfl ?_ | refine Ops.pv (pv_add rfl rfl rfl) rfl ?_
      refine Ops.pv (pv_move rfl) rfl ?_
      refine Ops.nil ?_
      refine Ends.goes ?_
      refine Goes.back (hK (i + 1, v1, H1) ⟨by dsimp only; omega, ?_⟩ (by dsimp only; omega)) ⟨rfl, rfl, rfl, rfl, rfl, trivial⟩
      dsimp only; rw [hcs, List.length_append, ptsC_app]; exact hs1
    · obtain rfl : i = ss.length := by omega
      refine Wp.exit ?_
      refine Ends.then_exit ?_
      refine Ends.then_exit ?_
      refine Ends.block_hit ?_
      refine Ends.seq ?_
      refine Wp.seq ?_
      refine Wp.region ?_
      refine Ops.pv (pv_move rfl) rfl ?_
      refine Ops.pv (pv_assign rfl) rfl ?_
      refine Ops.nil ?_
      refine Ends.seq ?_
      refine Wp.ret ?_
      rw [catPto_all] at hs2
      exact Ends.ret (L' := H ++ ((bx, .cells (ss.map SP.v).toArray 110) :: G)) (res1 rfl rfl) ⟨H, hs2, rfl⟩

theorem tr_concat2 (G : Hp) (bx cx : Nat) (a1 a2 : Option Addr) (c1 c2 : Nat) (l1 l2 : List Nat) (hv1 : View G 1 (.slice a1 l1.length c1) l1.length (ptsC l1)) (hv2 : View G 1 (.slice a2 l2.length c2) l2.length (ptsC l2)) (hl : (l1 ++ l2).length ≤ 2 ^ 40) :
    Tr Try.prog 72 [.slice (some ⟨bx, 0, none⟩) 2 cx] ((bx, .cells [.slice a1 l1.length c1, .slice a2 l2.length c2].toArray 110) :: G) (fun v L' => ∃ H, Slc 109 1 v (l1 ++ l2).length (ptsC (l1 ++ l2)) H ∧ L' = H ++ ((bx, .cells [.slice a1 l1.length c1, .slice a2 l2.length c2].toArray 110) :: G)) := by
  have e : catP [⟨a1, c1, l1⟩, ⟨a2, c2, l2⟩] = l1 ++ l2 := by simp [catP]
  have h := tr_concat G bx cx [⟨a1, c1, l1⟩, ⟨a2, c2, l2⟩] (by intro s hs; simp only [List.mem_cons, List.not_mem_nil, or_false] at hs; rcases hs with rfl | rfl <;> assumption) (by rw [e]; exact hl) (by simp)
  rw [e] at h
  exact h

theorem tr_concat3 (G : Hp) (bx cx : Nat) (a1 a2 a3 : Option Addr) (c1 c2 c3 : Nat) (l1 l2 l3 : List Nat) (hv1 : View G 1 (.slice a1 l1.length c1) l1.length (ptsC l1)) (hv2 : View G 1 (.slice a2 l2.length c2) l2.length (ptsC l2)) (hv3 : View G 1 (.slice a3 l3.length c3) l3.length (ptsC l3)) (hl : (l1 ++ l2 ++ l3).length ≤ 2 ^ 40) :
    Tr Try.prog 72 [.slice (some ⟨bx, 0, none⟩) 3 cx] ((bx, .cells [.slice a1 l1.length c1, .slice a2 l2.length c2, .slice a3 l3.length c3].toArray 110) :: G) (fun v L' => ∃ H, Slc 109 1 v (l1 ++ l2 ++ l3).length (ptsC (l1 ++ l2 ++ l3)) H ∧ L' = H ++ ((bx, .cells [.slice a1 l1.length c1, .slice a2 l2.length c2, .slice a3 l3.length c3].toArray 110) :: G)) := by
  have e : catP [⟨a1, c1, l1⟩, ⟨a2, c2, l2⟩, ⟨a3, c3, l3⟩] = l1 ++ l2 ++ l3 := by simp [catP]
  have h := tr_concat G bx cx [⟨a1, c1, l1⟩, ⟨a2, c2, l2⟩, ⟨a3, c3, l3⟩] (by intro s hs; simp only [List.mem_cons, List.not_mem_nil, or_false] at hs; rcases hs with rfl | rfl | rfl <;> assumption) (by rw [e]; exact hl) (by simp)
  rw [e] at h
  exact h

end Go.Proofs.Ytdodfnjmkpgdbaa
