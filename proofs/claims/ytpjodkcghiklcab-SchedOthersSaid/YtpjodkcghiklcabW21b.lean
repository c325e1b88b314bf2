/- Walks of layer 21's laws: each returns true, whatever the input. No condition. -/
import Derived.Test.YtpjodkcghiklcabM21o
set_option linter.unusedVariables false
set_option linter.unusedSimpArgs false
namespace Go.Proofs.Ytpjodkcghiklcab
open Go.SL

theorem tr_sDrop (sb : Nat) (H : Hp) (T : Ones) (e : Nat) (l : Int) (L : Nat → Ones) (hH : SchH T e l L sb H) (hA : At T e l) (hW : RdysW L) (hl : RdysL L (2 ^ 20)) (x : Int) : Tr Try.prog 17 [.pointer (some ⟨sb, 0, none⟩), .int .i64 x] H (fun u L' => u = .bool (sdB L x) ∧ SchH T e l (sdL L x) sb L') := by
  cases hf : findM L x with
  | none =>
    have h1 := tr_sDrop_none sb H T e l L hH hA hW hl x hf
    have e1 : sdB L x = false := by simp [sdB, hf]
    have e2 : sdL L x = L := by simp [sdL, hf]
    rw [e1, e2]; exact h1
  | some p =>
    obtain ⟨d, k⟩ := p
    have h1 := tr_sDrop_some sb H T e l L hH hA hW hl x d k hf
    have e1 : sdB L x = inR (L d) x := by simp [sdB, hf]
    have e2 : sdL L x = fset L d (dropR (L d) x) := by simp [sdL, hf]
    rw [e1, e2]; exact h1

theorem tr_sYield (sb : Nat) (H : Hp) (T : Ones) (e : Nat) (l : Int) (L : Nat → Ones) (hH : SchH T e l L sb H) (hA : At T e l) (hW : RdysW L) (hl : RdysL L (2 ^ 20)) (x : Int) : Tr Try.prog 16 [.pointer (some ⟨sb, 0, none⟩), .int .i64 x] H (fun u L' => u = .bool (fdB L x) ∧ SchH T e l (syL L x) sb L') := by
  cases hf : findM L x with
  | none =>
    have h1 := tr_sYield_none sb H T e l L hH hA hW hl x hf
    have e1 : fdB L x = false := by simp [fdB, hf]
    have e2 : syL L x = L := by simp [syL, hf]
    rw [e1, e2]; exact h1
  | some p =>
    obtain ⟨d, k⟩ := p
    have h1 := tr_sYield_some sb H T e l L hH hA hW hl x d k hf
    have e1 : fdB L x = true := by simp [fdB, hf]
    have e2 : syL L x = fset L d (putR (dropR (L d) x) x k) := by simp [syL, hf]
    rw [e1, e2]; exact h1

theorem tr_dDrop (qb : Nat) (H : Hp) (T : Ones) (e : Nat) (l : Int) (L : Nat → Ones) (hH : DSchH T (posT T e l) L qb H) (hA : At T e l) (hW : RdysW L) (hl : RdysL L (2 ^ 20)) (x : Int) : Tr Try.prog 20 [.pointer (some ⟨qb, 0, none⟩), .int .i64 x] H (fun u L' => u = .bool (sdB L x) ∧ DSchH T (posT T e l) (sdL L x) qb L') := by
  cases hf : findM L x with
  | none =>
    have h1 := tr_dDrop_none qb H T e l L hH hA hW hl x hf
    have e1 : sdB L x = false := by simp [sdB, hf]
    have e2 : sdL L x = L := by simp [sdL, hf]
    rw [e1, e2]; exact h1
  | some p =>
    obtain ⟨d, k⟩ := p
    have h1 := tr_dDrop_some qb H T e l L hH hA hW hl x d k hf
    have e1 : sdB L x = inR (L d) x := by simp [sdB, hf]
    have e2 : sdL L x = fset L d (dropR (L d) x) := by simp [sdL, hf]
    rw [e1, e2]; exact h1

theorem tr_dYield (qb : Nat) (H : Hp) (T : Ones) (e : Nat) (l : Int) (L : Nat → Ones) (hH : DSchH T (posT T e l) L qb H) (hA : At T e l) (hW : RdysW L) (hl : RdysL L (2 ^ 20)) (x : Int) : Tr Try.prog 21 [.pointer (some ⟨qb, 0, none⟩), .int .i64 x] H (fun u L' => u = .bool (fdB L x) ∧ DSchH T (posT T e l) (syL L x) qb L') := by
  cases hf : findM L x with
  | none =>
    have h1 := tr_dYield_none qb H T e l L hH hA hW hl x hf
    have e1 : fdB L x = false := by simp [fdB, hf]
    have e2 : syL L x = L := by simp [syL, hf]
    rw [e1, e2]; exact h1
  | some p =>
    obtain ⟨d, k⟩ := p
    have h1 := tr_dYield_some qb H T e l L hH hA hW hl x d k hf
    have e1 : fdB L x = true := by simp [fdB, hf]
    have e2 : syL L x = fset L d (putR (dropR (L d) x) x k) := by simp [syL, hf]
    rw [e1, e2]; exact h1

theorem tr_sNewOk (G : Hp) (a : Option Addr) (c : Nat) (T : Ones) (hv : View G 2 (.slice a T.length c) T.length (cel oneC T)) (hl : T.length ≤ 2 ^ 30) (hT : tmsOk T) : Tr Try.prog 9 [.slice a T.length c] G (fun u L' => ∃ sb H, u = .tuple #[.pointer (some ⟨sb, 0, none⟩), .int .i64 0] ∧ SchH T 0 (tkd T 0).2 (fun _ => []) sb H ∧ L' = H ++ G) :=
  (tr_sNew G a c T hv hl).mono fun v L' h => by
    rcases h with ⟨_, h⟩ | ⟨h, _⟩
    · exact h
    · exact absurd hT h
theorem tr_sNewBad (G : Hp) (a : Option Addr) (c : Nat) (T : Ones) (hv : View G 2 (.slice a T.length c) T.length (cel oneC T)) (hl : T.length ≤ 2 ^ 30) (hT : ¬ tmsOk T) : TrR Try.prog 9 [.slice a T.length c] G (.tuple #[.pointer none, .int .i64 1]) :=
  (tr_sNew G a c T hv hl).mono fun v L' h => by
    rcases h with ⟨h, _⟩ | ⟨_, h⟩
    · exact absurd h hT
    · exact h
theorem tr_dNewOk (G : Hp) (a : Option Addr) (c : Nat) (T : Ones) (hv : View G 2 (.slice a T.length c) T.length (cel oneC T)) (hl : T.length ≤ 2 ^ 30) (hT : tmsOk T) : Tr Try.prog 18 [.slice a T.length c] G (fun u L' => ∃ qb H, u = .tuple #[.pointer (some ⟨qb, 0, none⟩), .int .i64 0] ∧ DSchH T 0 (fun _ => []) qb H ∧ L' = H ++ G) :=
  (tr_dNew G a c T hv hl).mono fun v L' h => by
    rcases h with ⟨_, h⟩ | ⟨h, _⟩
    · exact h
    · exact absurd hT h
theorem tr_dNewBad (G : Hp) (a : Option Addr) (c : Nat) (T : Ones) (hv : View G 2 (.slice a T.length c) T.length (cel oneC T)) (hl : T.length ≤ 2 ^ 30) (hT : ¬ tmsOk T) : TrR Try.prog 18 [.slice a T.length c] G (.tuple #[.pointer none, .int .i64 1]) :=
  (tr_dNew G a c T hv hl).mono fun v L' h => by
    rcases h with ⟨h, _⟩ | ⟨_, h⟩
    · exact absurd h hT
    · exact h

theorem tr_to (G : Hp) (a : Option Addr) (c : Nat) (T : Ones) (hv : View G 2 (.slice a T.length c) T.length (cel oneC T)) (hl : T.length ≤ 2 ^ 30) : Tr Try.prog 10 [.slice a T.length c] (G) (fun u L' => ∃ H, Slc 39 2 u T.length (cel oneC T) H ∧ L' = H ++ G) := by
  refine Tr.enter Try.func10 rfl Try.ntmps10 rfl (fun W F => ?_)
  refine Wp.app ?_
  refine Wp.seq ?_
  refine Wp.region ?_
  refine Ops.pv (pv_assign rfl) rfl ?_
  refine Ops.nil ?_
  refine Ends.seq ?_
  refine Wp.seq ?_
  refine Wp.region ?_
  refine Ops.pv (pv_assign rfl) rfl ?_
  refine Ops.nil ?_
  refine Ends.seq ?_
  refine Wp.seq ?_
  refine Wp.seq ?_
  refine Wp.region ?_
  refine Ops.pv (pv_assign rfl) rfl ?_
  refine Ops.nil ?_
  refine Ends.seq ?_
  refine Wp.block ?_
  refine Wp.loopK (σ := Nat × Value × Hp) [(0, _)] (fun s => [(3, s.2.1), (4, .int .i64 s.1)]) (fun s => s.2.2 ++ (G ++ F)) (fun s => s.1 ≤ T.length ∧ Slc 39 2 s.2.1 (T.take s.1).length (cel oneC (T.take s.1)) s.2.2) (fun s => T.length - s.1) (0, .slice none 0 0, []) ⟨Nat.zero_le _, Slc.nil _ _⟩ ⟨rfl, trivial⟩ ⟨rfl, rfl, trivial⟩ (by intro w ho; (try dsimp only [List.nil_append, List.cons_append]); exact Drop.own ho) ?_
  rintro ⟨i, w, H⟩ KK ⟨hi, hs⟩ hK
  dsimp only [List.cons_append, List.nil_append] at hK ⊢
  dsimp only at hi hs ⊢
  refine Wp.seq ?_
  refine Wp.seq ?_
  refine Wp.region ?_
  refine Ops.pv (pv_move rfl) rfl ?_
  refine Ops.pv (pv_move rfl) rfl ?_
  refine Ops.pv (pv_len_slice (T := 22) rfl rfl) rfl ?_
  refine Ops.pv (pv_lss rfl rfl) rfl ?_
  refine Ops.nil ?_
  refine Ends.seq ?_
  first | refine Wp.cond_dect rfl (fun h1 => ?_) (fun h1 => ?_) | refine Wp.cond_t rfl (fun h1 => ?_) (fun h1 => ?_)
  · obtain ⟨b, o, cap, cc, T0, f, hv1, hbv, hr⟩ := hv.open (by omega)
    cases hv1
    obtain ⟨q0, q1⟩ := one_read hr (tkd_get (show i < T.length by omega))
    have htt : T.take (i + 1) = T.take i ++ [tkd T i] := by rw [List.take_add_one, tkd_get (show i < T.length by omega)]; rfl
    have htl : (T.take i).length ≤ T.length := by simp; omega
    refine Wp.skip ?_
    refine Ends.seq ?_
    refine Wp.seq ?_
    refine Wp.block ?_
    refine AnyH.start G 15 rfl ?_
    refine AnyH.take 0 rfl (by kernel_rfl) (by kernel_rfl) (by kernel_rfl) PF.pf rfl (pv_move rfl) rfl ?_
    refine AnyH.take 1 rfl (by kernel_rfl) (by kernel_rfl) (by kernel_rfl) PF.pf rfl (pv_move rfl) rfl ?_
    refine AnyH.take 2 rfl (by kernel_rfl) (by kernel_rfl) (by kernel_rfl) PF.pf rfl (pv_move rfl) rfl ?_
    refine AnyH.take 3 rfl (by kernel_rfl) (by kernel_rfl) (by kernel_rfl) PF.pf rfl (pv_indexAddr rfl rfl rfl (by omega)) rfl ?_
    first | refine AnyH.take 4 rfl (by kernel_rfl) (by kernel_rfl) (by kernel_rfl) PF.pf rfl (pv_fieldAddr0 rfl rfl) rfl ?_ | refine AnyH.take 4 rfl (by kernel_rfl) (by kernel_rfl) (by kernel_rfl) PF.pf rfl (pv_fieldAddr rfl rfl) rfl ?_
    first | refine AnyH.take 5 rfl (by kernel_rfl) (by kernel_rfl) (by kernel_rfl) PF.pf rfl (pv_load rfl rfl rfl) rfl ?_ | refine AnyH.take 5 rfl (by kernel_rfl) (by kernel_rfl) (by kernel_rfl) PF.pf rfl (pv_load rfl rfl (by assumption)) rfl ?_
    refine AnyH.take 6 rfl (by kernel_rfl) (by kernel_rfl) (by kernel_rfl) PF.pf rfl (pv_move rfl) rfl ?_
    refine AnyH.take 7 rfl (by kernel_rfl) (by kernel_rfl) (by kernel_rfl) PF.pf rfl (pv_move rfl) rfl ?_
    refine AnyH.take 8 rfl (by kernel_rfl) (by kernel_rfl) (by kernel_rfl) PF.pf rfl (pv_indexAddr rfl rfl rfl (by omega)) rfl ?_
    first | refine AnyH.take 9 rfl (by kernel_rfl) (by kernel_rfl) (by kernel_rfl) PF.pf rfl (pv_fieldAddr0 rfl rfl) rfl ?_ | refine AnyH.take 9 rfl (by kernel_rfl) (by kernel_rfl) (by kernel_rfl) PF.pf rfl (pv_fieldAddr rfl rfl) rfl ?_
    first | refine AnyH.take 10 rfl (by kernel_rfl) (by kernel_rfl) (by kernel_rfl) PF.pf rfl (pv_load rfl rfl rfl) rfl ?_ | refine AnyH.take 10 rfl (by kernel_rfl) (by kernel_rfl) (by kernel_rfl) PF.pf rfl (pv_load rfl rfl (by assumption)) rfl ?_
    refine AnyH.take 11 rfl (by kernel_rfl) (by kernel_rfl) (by kernel_rfl) PF.pf rfl (pv_build rfl) rfl ?_
    refine AnyH.one 12 (by kernel_rfl) ?_
    refine Turn.ef rfl rfl (ef_buildSlice1 (k := 2) rfl rfl rfl rfl rfl) ?_ ?_
    · rintro _ _ ⟨b1, rfl, rfl⟩; infer_instance
    rintro _ _ ⟨b1, rfl, rfl⟩
    refine AnyH.one 13 (by kernel_rfl) ?_
    refine Turn.ef rfl rfl (ef_append (H := H) (xs := [.int .i64 (tkd T i).1, .int .i64 (tkd T i).2]) rfl hs rfl ⟨rfl, rfl, trivial⟩ rfl rfl rfl (by omega) (by omega) rfl rfl) ?_ ?_
    · rintro _ _ ⟨v1, H1, hs1, rfl, rfl⟩; infer_instance
    rintro _ _ ⟨v1, H1, hs1, rfl, rfl⟩
    refine AnyH.app ?_
    skip
    refine AnyH.take 14 rfl (by kernel_rfl) (by kernel_rfl) (by kernel_rfl) PF.pf rfl (pv_assign rfl) rfl ?_
    refine AnyH.done (by kernel_rfl) ?_
    refine Ends.block_normal ?_
    refine Ends.seq ?_
    refine Wp.region ?_
    refine Ops.pv (pv_move rfl) rfl ?_
    first | refine Ops.pv (pv_add rfl rfl (w64 (by omega) (by omega))) rfl ?_ | refine Ops.pv (pv_add rfl rfl rfl) rfl ?_
    refine Ops.pv (pv_assign rfl) rfl ?_
    refine Ops.nil ?_
    refine Ends.goes ?_
    refine Goes.back (hK (i + 1, v1, H1) ⟨by dsimp only; omega, by dsimp only; rw [htt, List.length_append, cel_app, cel_one1]; exact hs1⟩ (by dsimp only; omega)) ⟨rfl, rfl, rfl, trivial⟩
  · refine Wp.exit ?_
    refine Ends.then_exit ?_
    refine Ends.then_exit ?_
    refine Ends.block_hit ?_
    refine Ends.seq ?_
    refine Wp.seq ?_
    refine Wp.region ?_
    refine Ops.pv (pv_move rfl) rfl ?_
    refine Ops.pv (pv_assign rfl) rfl ?_
    refine Ops.nil ?_
    refine Ends.seq ?_
    refine Wp.ret ?_
    obtain rfl : i = T.length := by omega
    rw [List.take_length] at hs
    exact Ends.ret (L' := H ++ G) (res1 rfl rfl) ⟨H, hs, rfl⟩

set_option maxHeartbeats 2000000 in
theorem tr_works21  : TrR Try.prog 8 [] ([]) (.bool true) := by
  refine Tr.enter Try.func8 rfl Try.ntmps8 rfl (fun W F => ?_)
  refine Wp.app ?_
  refine Wp.seq ?_
  refine Wp.region ?_
  refine Ops.pv (pv_assign rfl) rfl ?_
  refine Ops.nil ?_
  refine Ends.seq ?_
  refine Wp.seq ?_
  refine Wp.region ?_
  refine Ops.pv (pv_build rfl) rfl ?_
  refine Ops.pv (pv_build rfl) rfl ?_
  refine Ops.ef rfl (ef_buildSliceN [.int .i64 0, .int .i64 0, .int .i64 0, .int .i64 0] [(0, 2), (2, 2)] rfl (by kernel_rfl) (by decide) rfl rfl rfl) ?_
  rintro _ _ ⟨b1, rfl, rfl⟩
  refine Ops.ef rfl (ef_call (tr_sNewOk [(b1, .cells [.int .i64 0, .int .i64 2, .int .i64 1, .int .i64 1].toArray 39)] _ _ ([(0, 2), (1, 1)] : Ones) (view_lit rfl) (by decide) (by decide)) rfl rfl) ?_
  rintro _ _ ⟨_, _, ⟨sb1, HS1, rfl, hR1, rfl⟩, rfl, rfl⟩
  refine Ops.app ?_
  have hA0 : At ([(0, 2), (1, 1)] : Ones) 0 2 := At.start (by decide)
  have hW0 : RdysW (fun _ => [] : Nat → Ones) := RdysW.nil
  have hL0 : RdysL (fun _ => [] : Nat → Ones) (2 ^ 20) := fun _ _ => Nat.zero_le _
  refine Ops.pv (pv_move rfl) rfl ?_
  refine Ops.pv (pv_extract rfl rfl) rfl ?_
  refine Ops.pv (pv_extract rfl rfl) rfl ?_
  refine Ops.pv (pv_assign rfl) rfl ?_
  refine Ops.pv (pv_assign rfl) rfl ?_
  refine Ops.nil ?_
  refine Ends.seq ?_
  refine Wp.seq ?_
  refine Wp.seq ?_
  refine Wp.region ?_
  refine Ops.pv (pv_move rfl) rfl ?_
  refine Ops.pv ((pv_neq rfl rfl).fls (by first | exact fun h => h rfl | decide | omega | assumption)) rfl ?_
  refine Ops.pv (pv_move rfl) rfl ?_
  refine Ops.pvg ⟨_, _, rfl, rfl, rfl⟩ (pv_move rfl) rfl ?_
  refine Ops.pvg ⟨_, _, rfl, rfl, rfl⟩ (pv_eql_nil rfl rfl) rfl ?_
  refine Ops.pv (pv_pick_false rfl rfl) rfl ?_
  refine Ops.pv (pv_move rfl) rfl ?_
  refine Ops.pvg ⟨_, _, rfl, rfl, rfl⟩ (pv_move rfl) rfl ?_
  refine Ops.efg ⟨_, _, rfl, rfl, rfl⟩ (ef_call (tr_sPut _ _ ([(0, 2), (1, 1)] : Ones) 0 2 (fun _ => [] : Nat → Ones) hR1 hA0 hW0 hL0 5 1 3) rfl rfl) ?_
  rintro _ _ ⟨_, _, ⟨rfl, hR2⟩, rfl, rfl⟩
  refine Ops.app ?_
  rw [show spE (fun _ => [] : Nat → Ones) 5 1 3 = 0 from rfl]
  rw [show spL (fun _ => [] : Nat → Ones) 5 1 3 = (fset (fun _ => [] : Nat → Ones) 1 [(5, 3)]) from rfl] at hR2
  have hW1 : RdysW (fset (fun _ => [] : Nat → Ones) 1 [(5, 3)]) := spW hW0 5 1 3
  have hL1 : RdysL (fset (fun _ => [] : Nat → Ones) 1 [(5, 3)]) (2 ^ 20) := by intro j hj; unfold fset; split <;> (try split) <;> simp
  refine Ops.pvg ⟨_, _, rfl, rfl, rfl⟩ ((pv_neq rfl rfl).fls (by first | exact fun h => h rfl | decide | omega | assumption)) rfl ?_
  refine Ops.pv (pv_pick_false rfl rfl) rfl ?_
  refine Ops.pv (pv_move rfl) rfl ?_
  refine Ops.pvg ⟨_, _, rfl, rfl, rfl⟩ (pv_move rfl) rfl ?_
  refine Ops.efg ⟨_, _, rfl, rfl, rfl⟩ (ef_call (tr_sPut _ _ ([(0, 2), (1, 1)] : Ones) 0 2 (fset (fun _ => [] : Nat → Ones) 1 [(5, 3)]) hR2 hA0 hW1 hL1 5 0 3) rfl rfl) ?_
  rintro _ _ ⟨_, _, ⟨rfl, hR3⟩, rfl, rfl⟩
  refine Ops.app ?_
  rw [show spE (fset (fun _ => [] : Nat → Ones) 1 [(5, 3)]) 5 0 3 = 4 from rfl]
  rw [show spL (fset (fun _ => [] : Nat → Ones) 1 [(5, 3)]) 5 0 3 = (fset (fun _ => [] : Nat → Ones) 1 [(5, 3)]) from rfl] at hR3
  have hW2 : RdysW (fset (fun _ => [] : Nat → Ones) 1 [(5, 3)]) := spW hW1 5 0 3
  have hL2 : RdysL (fset (fun _ => [] : Nat → Ones) 1 [(5, 3)]) (2 ^ 20) := by intro j hj; unfold fset; split <;> (try split) <;> simp
  refine Ops.pvg ⟨_, _, rfl, rfl, rfl⟩ ((pv_neq rfl rfl).fls (by first | exact fun h => h rfl | decide | omega | assumption)) rfl ?_
  refine Ops.pv (pv_pick_false rfl rfl) rfl ?_
  refine Ops.pv (pv_move rfl) rfl ?_
  refine Ops.pvg ⟨_, _, rfl, rfl, rfl⟩ (pv_move rfl) rfl ?_
  refine Ops.efg ⟨_, _, rfl, rfl, rfl⟩ (ef_call (tr_sPut _ _ ([(0, 2), (1, 1)] : Ones) 0 2 (fset (fun _ => [] : Nat → Ones) 1 [(5, 3)]) hR3 hA0 hW2 hL2 6 0 1) rfl rfl) ?_
  rintro _ _ ⟨_, _, ⟨rfl, hR4⟩, rfl, rfl⟩
  refine Ops.app ?_
  rw [show spE (fset (fun _ => [] : Nat → Ones) 1 [(5, 3)]) 6 0 1 = 0 from rfl]
  rw [show spL (fset (fun _ => [] : Nat → Ones) 1 [(5, 3)]) 6 0 1 = (fset (fset (fun _ => [] : Nat → Ones) 1 [(5, 3)]) 0 [(6, 1)]) from rfl] at hR4
  have hW3 : RdysW (fset (fset (fun _ => [] : Nat → Ones) 1 [(5, 3)]) 0 [(6, 1)]) := spW hW2 6 0 1
  have hL3 : RdysL (fset (fset (fun _ => [] : Nat → Ones) 1 [(5, 3)]) 0 [(6, 1)]) (2 ^ 20) := by intro j hj; unfold fset; split <;> (try split) <;> simp
  refine Ops.pvg ⟨_, _, rfl, rfl, rfl⟩ ((pv_neq rfl rfl).fls (by first | exact fun h => h rfl | decide | omega | assumption)) rfl ?_
  refine Ops.pv (pv_pick_false rfl rfl) rfl ?_
  refine Ops.nil ?_
  refine Ends.seq ?_
  refine Wp.cond_false rfl ?_
  refine Wp.skip ?_
  refine Ends.seq ?_
  refine Wp.seq ?_
  refine Wp.region ?_
  refine Ops.pv (pv_move rfl) rfl ?_
  refine Ops.ef rfl (ef_callr ((tr_sPick _ _ ([(0, 2), (1, 1)] : Ones) 0 2 (fset (fset (fun _ => [] : Nat → Ones) 1 [(5, 3)]) 0 [(6, 1)]) hR4 hA0 hW3 hL3).eq (r' := .tuple #[.int .i64 6, .bool true]) (by rfl)) rfl rfl) ?_
  rintro _ _ ⟨rfl, rfl⟩
  refine Ops.pv (pv_move rfl) rfl ?_
  refine Ops.pv (pv_extract rfl rfl) rfl ?_
  refine Ops.pv (pv_extract rfl rfl) rfl ?_
  refine Ops.pv (pv_assign rfl) rfl ?_
  refine Ops.pv (pv_assign rfl) rfl ?_
  refine Ops.nil ?_
  refine Ends.seq ?_
  refine Wp.seq ?_
  refine Wp.region ?_
  refine Ops.pv (pv_move rfl) rfl ?_
  refine Ops.ef rfl (ef_call (tr_sTick _ _ ([(0, 2), (1, 1)] : Ones) 0 2 (fset (fset (fun _ => [] : Nat → Ones) 1 [(5, 3)]) 0 [(6, 1)]) hR4 hA0) rfl rfl) ?_
  rintro _ _ ⟨_, _, ⟨rfl, hR5⟩, rfl, rfl⟩
  refine Ops.app ?_
  rw [show nxB 2 = false from rfl]
  have hA1 : At ([(0, 2), (1, 1)] : Ones) 0 1 := hA0.next
  rw [show nxE ([(0, 2), (1, 1)] : Ones) 0 2 = 0 from rfl, show nxL ([(0, 2), (1, 1)] : Ones) 0 2 = 1 from rfl] at hR5
  refine Ops.pv (pv_move rfl) rfl ?_
  refine Ops.ef rfl (ef_call (tr_sTick _ _ ([(0, 2), (1, 1)] : Ones) 0 1 (fset (fset (fun _ => [] : Nat → Ones) 1 [(5, 3)]) 0 [(6, 1)]) hR5 hA1) rfl rfl) ?_
  rintro _ _ ⟨_, _, ⟨rfl, hR6⟩, rfl, rfl⟩
  refine Ops.app ?_
  rw [show nxB 1 = true from rfl]
  have hA2 : At ([(0, 2), (1, 1)] : Ones) 1 1 := hA1.next
  rw [show nxE ([(0, 2), (1, 1)] : Ones) 0 1 = 1 from rfl, show nxL ([(0, 2), (1, 1)] : Ones) 0 1 = 1 from rfl] at hR6
  refine Ops.pv (pv_assign rfl) rfl ?_
  refine Ops.pv (pv_assign rfl) rfl ?_
  refine Ops.nil ?_
  refine Ends.seq ?_
  refine Wp.seq ?_
  refine Wp.region ?_
  refine Ops.pv (pv_move rfl) rfl ?_
  refine Ops.ef rfl (ef_callr ((tr_sPick _ _ ([(0, 2), (1, 1)] : Ones) 1 1 (fset (fset (fun _ => [] : Nat → Ones) 1 [(5, 3)]) 0 [(6, 1)]) hR6 hA2 hW3 hL3).eq (r' := .tuple #[.int .i64 5, .bool true]) (by rfl)) rfl rfl) ?_
  rintro _ _ ⟨rfl, rfl⟩
  refine Ops.pv (pv_move rfl) rfl ?_
  refine Ops.pv (pv_extract rfl rfl) rfl ?_
  refine Ops.pv (pv_extract rfl rfl) rfl ?_
  refine Ops.pv (pv_assign rfl) rfl ?_
  refine Ops.pv (pv_assign rfl) rfl ?_
  refine Ops.nil ?_
  refine Ends.seq ?_
  refine Wp.seq ?_
  refine Wp.region ?_
  refine Ops.pv (pv_move rfl) rfl ?_
  refine Ops.ef rfl (ef_callr ((tr_sDomain _ _ ([(0, 2), (1, 1)] : Ones) 1 1 (fset (fset (fun _ => [] : Nat → Ones) 1 [(5, 3)]) 0 [(6, 1)]) hR6 hA2).eq (r' := .int .i64 1) (by rfl)) rfl rfl) ?_
  rintro _ _ ⟨rfl, rfl⟩
  refine Ops.pv (pv_assign rfl) rfl ?_
  refine Ops.nil ?_
  refine Ends.seq ?_
  refine Wp.seq ?_
  refine Wp.region ?_
  refine Ops.pv (pv_move rfl) rfl ?_
  refine Ops.ef rfl (ef_call (tr_sTick _ _ ([(0, 2), (1, 1)] : Ones) 1 1 (fset (fset (fun _ => [] : Nat → Ones) 1 [(5, 3)]) 0 [(6, 1)]) hR6 hA2) rfl rfl) ?_
  rintro _ _ ⟨_, _, ⟨rfl, hR7⟩, rfl, rfl⟩
  refine Ops.app ?_
  rw [show nxB 1 = true from rfl]
  have hA3 : At ([(0, 2), (1, 1)] : Ones) 0 2 := hA2.next
  rw [show nxE ([(0, 2), (1, 1)] : Ones) 1 1 = 0 from rfl, show nxL ([(0, 2), (1, 1)] : Ones) 1 1 = 2 from rfl] at hR7
  refine Ops.pv (pv_assign rfl) rfl ?_
  refine Ops.nil ?_
  refine Ends.seq ?_
  refine Wp.seq ?_
  refine Wp.region ?_
  refine Ops.ef rfl (ef_callr (tr_sNewBad [] none 0 [] (View.nil _ _) (by decide) (by decide)) rfl rfl) ?_
  rintro _ _ ⟨rfl, rfl⟩
  refine Ops.pv (pv_move rfl) rfl ?_
  refine Ops.pv (pv_extract rfl rfl) rfl ?_
  refine Ops.pv (pv_extract rfl rfl) rfl ?_
  refine Ops.pv (pv_assign rfl) rfl ?_
  refine Ops.pv (pv_assign rfl) rfl ?_
  refine Ops.nil ?_
  refine Ends.seq ?_
  refine Wp.seq ?_
  refine Wp.region ?_
  refine Ops.pv (pv_move rfl) rfl ?_
  refine Ops.pv ((pv_eql rfl rfl).tru (by first | rfl | decide | omega | assumption | (simp; done) | (simp; omega))) rfl ?_
  refine Ops.pv (pv_move rfl) rfl ?_
  refine Ops.pvg ⟨_, _, rfl, rfl, rfl⟩ (pv_move rfl) rfl ?_
  refine Ops.pv (pv_pick_true rfl rfl) rfl ?_
  refine Ops.pv (pv_move rfl) rfl ?_
  refine Ops.pvg ⟨_, _, rfl, rfl, rfl⟩ (pv_move rfl) rfl ?_
  first | refine Ops.pvg ⟨_, _, rfl, rfl, rfl⟩ (pv_not_dec rfl) rfl ?_ | refine Ops.pvg ⟨_, _, rfl, rfl, rfl⟩ (pv_not rfl) rfl ?_
  refine Ops.pv (pv_pick_true rfl rfl) rfl ?_
  refine Ops.pv (pv_move rfl) rfl ?_
  refine Ops.pvg ⟨_, _, rfl, rfl, rfl⟩ (pv_move rfl) rfl ?_
  refine Ops.pv (pv_pick_true rfl rfl) rfl ?_
  refine Ops.pv (pv_move rfl) rfl ?_
  refine Ops.pvg ⟨_, _, rfl, rfl, rfl⟩ (pv_move rfl) rfl ?_
  refine Ops.pvg ⟨_, _, rfl, rfl, rfl⟩ ((pv_eql rfl rfl).tru (by first | rfl | decide | omega | assumption | (simp; done) | (simp; omega))) rfl ?_
  refine Ops.pv (pv_pick_true rfl rfl) rfl ?_
  refine Ops.pv (pv_move rfl) rfl ?_
  refine Ops.pvg ⟨_, _, rfl, rfl, rfl⟩ (pv_move rfl) rfl ?_
  refine Ops.pv (pv_pick_true rfl rfl) rfl ?_
  refine Ops.pv (pv_move rfl) rfl ?_
  refine Ops.pvg ⟨_, _, rfl, rfl, rfl⟩ (pv_move rfl) rfl ?_
  refine Ops.pvg ⟨_, _, rfl, rfl, rfl⟩ ((pv_eql rfl rfl).tru (by first | rfl | decide | omega | assumption | (simp; done) | (simp; omega))) rfl ?_
  refine Ops.pv (pv_pick_true rfl rfl) rfl ?_
  refine Ops.pv (pv_move rfl) rfl ?_
  refine Ops.pvg ⟨_, _, rfl, rfl, rfl⟩ (pv_move rfl) rfl ?_
  refine Ops.pv (pv_pick_true rfl rfl) rfl ?_
  refine Ops.pv (pv_move rfl) rfl ?_
  refine Ops.pvg ⟨_, _, rfl, rfl, rfl⟩ (pv_move rfl) rfl ?_
  refine Ops.efg ⟨_, _, rfl, rfl, rfl⟩ (ef_callr ((tr_sDomain _ _ ([(0, 2), (1, 1)] : Ones) 0 2 (fset (fset (fun _ => [] : Nat → Ones) 1 [(5, 3)]) 0 [(6, 1)]) hR7 hA3).eq (r' := .int .i64 0) (by rfl)) rfl rfl) ?_
  rintro _ _ ⟨rfl, rfl⟩
  refine Ops.pvg ⟨_, _, rfl, rfl, rfl⟩ ((pv_eql rfl rfl).tru (by first | rfl | decide | omega | assumption | (simp; done) | (simp; omega))) rfl ?_
  refine Ops.pv (pv_pick_true rfl rfl) rfl ?_
  refine Ops.pv (pv_move rfl) rfl ?_
  refine Ops.pvg ⟨_, _, rfl, rfl, rfl⟩ (pv_move rfl) rfl ?_
  refine Ops.pvg ⟨_, _, rfl, rfl, rfl⟩ ((pv_eql rfl rfl).tru (by first | rfl | decide | omega | assumption | (simp; done) | (simp; omega))) rfl ?_
  refine Ops.pv (pv_pick_true rfl rfl) rfl ?_
  refine Ops.pv (pv_assign rfl) rfl ?_
  refine Ops.nil ?_
  refine Ends.seq ?_
  refine Wp.ret ?_
  exact Ends.ret (res1 rfl rfl) ⟨rfl, rfl⟩

set_option maxHeartbeats 4000000 in
theorem tr_schedDoes (G : Hp) (hnd : (G.map Prod.fst).Nodup) (ta : Option Addr) (tc : Nat) (T : Ones) (hta : ArgS G 2 ta (T.map oneC)) (htc : T.length ≤ tc) (htl : T.length ≤ maxLen) (a : Option Addr) (c : Nat) (ops : List OpS) (ha : ArgS G 4 a (ops.map OpS.cells)) (hol : ops.length ≤ maxLen) : TrR Try.prog 7 [.slice ta T.length tc, .slice a ops.length c] (G) (.bool true) := by
  have hv := argS_view hnd hta htc
  refine Tr.enter Try.func7 rfl Try.ntmps7 rfl (fun W F => ?_)
  refine Wp.app ?_
  refine Wp.seq ?_
  refine Wp.region ?_
  refine Ops.pv (pv_assign rfl) rfl ?_
  refine Ops.nil ?_
  refine Ends.seq ?_
  refine Wp.seq ?_
  refine Wp.seq ?_
  refine Wp.region ?_
  refine Ops.pv (pv_move rfl) rfl ?_
  refine Ops.pv (pv_len_slice (T := 22) rfl rfl) rfl ?_
  refine Ops.pv (pv_gtr rfl rfl) rfl ?_
  refine Ops.nil ?_
  refine Ends.seq ?_
  first | refine Wp.cond_dect rfl (fun h1 => ?_) (fun h1 => ?_) | refine Wp.cond_t rfl (fun h1 => ?_) (fun h1 => ?_)
  · refine Wp.seq ?_
    refine Wp.region ?_
    refine Ops.pv (pv_assign rfl) rfl ?_
    refine Ops.nil ?_
    refine Ends.seq ?_
    refine Wp.ret ?_
    refine Ends.then_ret ?_
    exact Ends.ret (res1 rfl rfl) ⟨rfl, rfl⟩
  · rcases Decidable.em (tmsOk T) with hT | hT
    · refine Wp.skip ?_
      refine Ends.seq ?_
      refine Wp.seq ?_
      refine Wp.region ?_
      refine Ops.pv (pv_move rfl) rfl ?_
      refine Ops.ef rfl (ef_call (tr_to G ta tc T hv (by omega)) rfl rfl) ?_
      rintro _ _ ⟨_, _, ⟨C1, hc1, rfl⟩, rfl, rfl⟩
      refine Ops.app ?_
      obtain ⟨p1, q1, rfl⟩ := hc1.form
      refine Ops.ef rfl (ef_call (tr_sNewOk C1 _ _ T hc1.view (by omega) hT) rfl rfl) ?_
      rintro _ _ ⟨_, _, ⟨sb1, HS1, rfl, hZ1, rfl⟩, rfl, rfl⟩
      refine Ops.app ?_
      refine Ops.pv (pv_move rfl) rfl ?_
      refine Ops.pv (pv_extract rfl rfl) rfl ?_
      refine Ops.pv (pv_extract rfl rfl) rfl ?_
      refine Ops.pv (pv_assign rfl) rfl ?_
      refine Ops.pv (pv_assign rfl) rfl ?_
      refine Ops.nil ?_
      refine Ends.seq ?_
      refine Wp.seq ?_
      refine Wp.region ?_
      refine Ops.pv (pv_move rfl) rfl ?_
      refine Ops.ef rfl (ef_call (tr_dNewOk G _ _ T hv (by omega) hT) rfl rfl) ?_
      rintro _ _ ⟨_, _, ⟨qb1, HD1, rfl, hY1, rfl⟩, rfl, rfl⟩
      refine Ops.app ?_
      refine Ops.pv (pv_move rfl) rfl ?_
      refine Ops.pv (pv_extract rfl rfl) rfl ?_
      refine Ops.pv (pv_extract rfl rfl) rfl ?_
      refine Ops.pv (pv_assign rfl) rfl ?_
      refine Ops.pv (pv_assign rfl) rfl ?_
      refine Ops.nil ?_
      refine Ends.seq ?_
      refine Wp.seq ?_
      refine Wp.seq ?_
      refine Wp.region ?_
      refine Ops.pv (pv_move rfl) rfl ?_
      refine Ops.pv (pv_move rfl) rfl ?_
      refine Ops.pv ((pv_neq rfl rfl).fls (by first | exact fun h => h rfl | decide | omega | assumption)) rfl ?_
      refine Ops.pv (pv_move rfl) rfl ?_
      refine Ops.pvg ⟨_, _, rfl, rfl, rfl⟩ (pv_move rfl) rfl ?_
      refine Ops.pvg ⟨_, _, rfl, rfl, rfl⟩ ((pv_neq rfl rfl).fls (by first | exact fun h => h rfl | decide | omega | assumption)) rfl ?_
      refine Ops.pv (pv_pick_false rfl rfl) rfl ?_
      refine Ops.pv (pv_move rfl) rfl ?_
      refine Ops.pvg ⟨_, _, rfl, rfl, rfl⟩ (pv_move rfl) rfl ?_
      refine Ops.pvg ⟨_, _, rfl, rfl, rfl⟩ (pv_eql_nil rfl rfl) rfl ?_
      refine Ops.pv (pv_pick_false rfl rfl) rfl ?_
      refine Ops.nil ?_
      refine Ends.seq ?_
      refine Wp.cond_false rfl ?_
      refine Wp.skip ?_
      refine Ends.seq ?_
      refine Wp.seq ?_
      refine Wp.seq ?_
      refine Wp.region ?_
      refine Ops.pv (pv_assign rfl) rfl ?_
      refine Ops.nil ?_
      refine Ends.seq ?_
      refine Wp.block ?_
      refine Wp.loopK (σ := Nat × Nat × Int × (Nat → Ones) × Hp × Hp) [(1, _), (5, _), (7, _)] (fun s => [(9, .int .i64 s.1)]) (fun s => s.2.2.2.2.1 ++ (s.2.2.2.2.2 ++ (G ++ F))) (fun s => s.1 ≤ 100 ∧ At T s.2.1 s.2.2.1 ∧ RdysW s.2.2.2.1 ∧ RdysL s.2.2.2.1 s.1 ∧ SchH T s.2.1 s.2.2.1 s.2.2.2.1 sb1 s.2.2.2.2.1 ∧ DSchH T (posT T s.2.1 s.2.2.1) s.2.2.2.1 qb1 s.2.2.2.2.2) (fun s => ops.length - s.1) (0, 0, (tkd T 0).2, fun _ => [], HS1, HD1) ⟨Nat.zero_le _, At.start hT, RdysW.nil, fun _ _ => Nat.zero_le _, hZ1, by dsimp only; rw [show posT T 0 (tkd T 0).2 = 0 by unfold posT; simp [sumT]]; exact hY1⟩ ⟨rfl, rfl, rfl, trivial⟩ ⟨rfl, trivial⟩ (by intro w ho; (try dsimp only [List.nil_append, List.cons_append]); exact Drop.own ho) ?_
      rintro ⟨i, e, l, L, H, K⟩ KK ⟨hi, hAt, hW, hl, hA, hB⟩ hK
      dsimp only [List.cons_append, List.nil_append] at hK ⊢
      dsimp only at hi hAt hW hl hA hB ⊢
      refine Wp.seq ?_
      refine Wp.seq ?_
      refine Wp.region ?_
      refine Ops.pv (pv_move rfl) rfl ?_
      refine Ops.pv (pv_move rfl) rfl ?_
      refine Ops.pv (pv_len_slice (T := 38) rfl rfl) rfl ?_
      refine Ops.pv (pv_lss rfl rfl) rfl ?_
      refine Ops.pv (pv_move rfl) rfl ?_
      refine Ops.pvc rfl rfl (fun hg => pv_move rfl) rfl ?_
      refine Ops.pvc rfl rfl (fun hg => Pv.setE (t := 60) rfl (cv_pos hg) (pv_lss rfl rfl)) rfl ?_
      refine Ops.pv (pv_pick_and rfl rfl) rfl ?_
      refine Ops.nil ?_
      refine Ends.seq ?_
      first | refine Wp.cond_dect rfl (fun h2 => ?_) (fun h2 => ?_) | refine Wp.cond_t rfl (fun h2 => ?_) (fun h2 => ?_)
      · obtain ⟨x, hq⟩ : ∃ x, ops[i]? = some x := ⟨_, List.getElem?_eq_getElem (by omega)⟩
        obtain ⟨_, bo, oo, co, To, fo, rfl, hm, hro⟩ := ha i x.cells (by rw [List.getElem?_map, hq]; rfl)
        have hbg : Blk G bo (.cells co.toArray To fo) := ⟨hm⟩
        refine Wp.skip ?_
        refine Ends.seq ?_
        refine Wp.seq ?_
        refine Wp.block ?_
        refine Wp.seq ?_
        refine Wp.region ?_
        refine Ops.pv (pv_move rfl) rfl ?_
        refine Ops.pv (pv_move rfl) rfl ?_
        refine Ops.pv (pv_indexAddr rfl rfl rfl (by omega)) rfl ?_
        refine Ops.pv (pv_loadK x.cells rfl rfl rfl hro) rfl ?_
        refine Ops.ef rfl (ef_allocK tyZ42 rfl) ?_
        rintro _ _ ⟨b1, rfl, rfl⟩
        refine Ops.ef rfl (ef_storeK rfl rfl rfl rfl) ?_
        rintro _ _ ⟨rfl, rfl⟩
        refine Ops.nil ?_
        refine Ends.seq ?_
        refine Wp.seq ?_
        refine Wp.seq ?_
        refine Wp.region ?_
        first | refine Ops.pv (pv_fieldAddr0 rfl rfl) rfl ?_ | refine Ops.pv (pv_fieldAddr rfl rfl) rfl ?_
        first | refine Ops.pv (pv_load rfl rfl rfl) rfl ?_ | refine Ops.pv (pv_load rfl rfl (by assumption)) rfl ?_
        refine Ops.nil ?_
        refine Ends.seq ?_
        refine Wp.block ?_
        refine Wp.seq ?_
        refine Wp.region ?_
        refine Ops.pv (pv_eql rfl rfl) rfl ?_
        refine Ops.pv (pv_assign rfl) rfl ?_
        refine Ops.nil ?_
        refine Ends.seq ?_
        first | refine Wp.cond_dect rfl (fun h3 => ?_) (fun h3 => ?_) | refine Wp.cond_t rfl (fun h3 => ?_) (fun h3 => ?_)
        · refine Wp.seq ?_
          refine AnyH.start [(b1, .cells x.cells.toArray 42)] 17 rfl ?_
          refine AnyH.take 0 rfl (by kernel_rfl) (by kernel_rfl) (by kernel_rfl) PF.pf rfl (pv_move rfl) rfl ?_
          first | refine AnyH.take 1 rfl (by kernel_rfl) (by kernel_rfl) (by kernel_rfl) PF.pf rfl (pv_fieldAddr0 rfl rfl) rfl ?_ | refine AnyH.take 1 rfl (by kernel_rfl) (by kernel_rfl) (by kernel_rfl) PF.pf rfl (pv_fieldAddr rfl rfl) rfl ?_
          first | refine AnyH.take 2 rfl (by kernel_rfl) (by kernel_rfl) (by kernel_rfl) PF.pf rfl (pv_load rfl rfl rfl) rfl ?_ | refine AnyH.take 2 rfl (by kernel_rfl) (by kernel_rfl) (by kernel_rfl) PF.pf rfl (pv_load rfl rfl (by assumption)) rfl ?_
          first | refine AnyH.take 3 rfl (by kernel_rfl) (by kernel_rfl) (by kernel_rfl) PF.pf rfl (pv_fieldAddr0 rfl rfl) rfl ?_ | refine AnyH.take 3 rfl (by kernel_rfl) (by kernel_rfl) (by kernel_rfl) PF.pf rfl (pv_fieldAddr rfl rfl) rfl ?_
          first | refine AnyH.take 4 rfl (by kernel_rfl) (by kernel_rfl) (by kernel_rfl) PF.pf rfl (pv_load rfl rfl rfl) rfl ?_ | refine AnyH.take 4 rfl (by kernel_rfl) (by kernel_rfl) (by kernel_rfl) PF.pf rfl (pv_load rfl rfl (by assumption)) rfl ?_
          first | refine AnyH.take 5 rfl (by kernel_rfl) (by kernel_rfl) (by kernel_rfl) PF.pf rfl (pv_fieldAddr0 rfl rfl) rfl ?_ | refine AnyH.take 5 rfl (by kernel_rfl) (by kernel_rfl) (by kernel_rfl) PF.pf rfl (pv_fieldAddr rfl rfl) rfl ?_
          first | refine AnyH.take 6 rfl (by kernel_rfl) (by kernel_rfl) (by kernel_rfl) PF.pf rfl (pv_load rfl rfl rfl) rfl ?_ | refine AnyH.take 6 rfl (by kernel_rfl) (by kernel_rfl) (by kernel_rfl) PF.pf rfl (pv_load rfl rfl (by assumption)) rfl ?_
          refine AnyH.take 8 rfl (by kernel_rfl) (by kernel_rfl) (by kernel_rfl) PF.pf rfl (pv_move rfl) rfl ?_
          first | refine AnyH.take 9 rfl (by kernel_rfl) (by kernel_rfl) (by kernel_rfl) PF.pf rfl (pv_fieldAddr0 rfl rfl) rfl ?_ | refine AnyH.take 9 rfl (by kernel_rfl) (by kernel_rfl) (by kernel_rfl) PF.pf rfl (pv_fieldAddr rfl rfl) rfl ?_
          first | refine AnyH.take 10 rfl (by kernel_rfl) (by kernel_rfl) (by kernel_rfl) PF.pf rfl (pv_load rfl rfl rfl) rfl ?_ | refine AnyH.take 10 rfl (by kernel_rfl) (by kernel_rfl) (by kernel_rfl) PF.pf rfl (pv_load rfl rfl (by assumption)) rfl ?_
          first | refine AnyH.take 11 rfl (by kernel_rfl) (by kernel_rfl) (by kernel_rfl) PF.pf rfl (pv_fieldAddr0 rfl rfl) rfl ?_ | refine AnyH.take 11 rfl (by kernel_rfl) (by kernel_rfl) (by kernel_rfl) PF.pf rfl (pv_fieldAddr rfl rfl) rfl ?_
          first | refine AnyH.take 12 rfl (by kernel_rfl) (by kernel_rfl) (by kernel_rfl) PF.pf rfl (pv_load rfl rfl rfl) rfl ?_ | refine AnyH.take 12 rfl (by kernel_rfl) (by kernel_rfl) (by kernel_rfl) PF.pf rfl (pv_load rfl rfl (by assumption)) rfl ?_
          first | refine AnyH.take 13 rfl (by kernel_rfl) (by kernel_rfl) (by kernel_rfl) PF.pf rfl (pv_fieldAddr0 rfl rfl) rfl ?_ | refine AnyH.take 13 rfl (by kernel_rfl) (by kernel_rfl) (by kernel_rfl) PF.pf rfl (pv_fieldAddr rfl rfl) rfl ?_
          first | refine AnyH.take 14 rfl (by kernel_rfl) (by kernel_rfl) (by kernel_rfl) PF.pf rfl (pv_load rfl rfl rfl) rfl ?_ | refine AnyH.take 14 rfl (by kernel_rfl) (by kernel_rfl) (by kernel_rfl) PF.pf rfl (pv_load rfl rfl (by assumption)) rfl ?_
          refine AnyH.one 7 (by kernel_rfl) ?_
          refine Turn.ef rfl rfl (ef_call (tr_sPut sb1 _ T e l L hA hAt hW (hl.mono (by omega)) x.id x.domain x.level) rfl rfl) ?_ ?_
          · rintro _ _ ⟨_, _, ⟨rfl, hA1⟩, rfl, rfl⟩; infer_instance
          rintro _ _ ⟨_, _, ⟨rfl, hA1⟩, rfl, rfl⟩
          refine AnyH.app ?_
          refine AnyH.one 15 (by kernel_rfl) ?_
          refine Turn.ef rfl rfl (ef_call (tr_dPut qb1 _ T e l L hB hAt hW (hl.mono (by omega)) x.id x.domain x.level) rfl rfl) ?_ ?_
          · rintro _ _ ⟨_, _, ⟨rfl, hB1⟩, rfl, rfl⟩; infer_instance
          rintro _ _ ⟨_, _, ⟨rfl, hB1⟩, rfl, rfl⟩
          refine AnyH.app ?_
          refine AnyH.take 16 rfl (by kernel_rfl) (by kernel_rfl) (by kernel_rfl) PF.pf rfl ((pv_neq rfl rfl).fls (by first | exact fun h => h rfl | decide | omega | assumption)) rfl ?_
          refine AnyH.done (by kernel_rfl) ?_
          refine Ends.seq ?_
          refine Wp.cond_false rfl ?_
          refine Wp.skip ?_
          refine Ends.block_normal ?_
          refine Ends.seq ?_
          refine Wp.seq ?_
          refine Wp.region ?_
          refine Ops.pv (pv_move rfl) rfl ?_
          refine Ops.ef rfl (ef_callr (tr_sPick sb1 _ T e l (spL L x.id x.domain x.level) hA1 hAt (spW hW x.id x.domain x.level) ((spLen hl x.id x.domain x.level).mono (by omega))) rfl rfl) ?_
          rintro _ _ ⟨rfl, rfl⟩
          refine Ops.pv (pv_move rfl) rfl ?_
          refine Ops.pv (pv_extract rfl rfl) rfl ?_
          refine Ops.pv (pv_extract rfl rfl) rfl ?_
          refine Ops.pv (pv_assign rfl) rfl ?_
          refine Ops.pv (pv_assign rfl) rfl ?_
          refine Ops.nil ?_
          refine Ends.seq ?_
          refine Wp.seq ?_
          refine Wp.region ?_
          refine Ops.pv (pv_move rfl) rfl ?_
          refine Ops.ef rfl (ef_callr (tr_dPick qb1 _ T e l (spL L x.id x.domain x.level) hB1 hAt (spW hW x.id x.domain x.level) ((spLen hl x.id x.domain x.level).mono (by omega))) rfl rfl) ?_
          rintro _ _ ⟨rfl, rfl⟩
          refine Ops.pv (pv_move rfl) rfl ?_
          refine Ops.pv (pv_extract rfl rfl) rfl ?_
          refine Ops.pv (pv_extract rfl rfl) rfl ?_
          refine Ops.pv (pv_assign rfl) rfl ?_
          refine Ops.pv (pv_assign rfl) rfl ?_
          refine Ops.nil ?_
          refine Ends.seq ?_
          refine Wp.seq ?_
          refine Wp.region ?_
          refine Ops.pv (pv_move rfl) rfl ?_
          refine Ops.ef rfl (ef_callr (tr_sNow sb1 _ T e l (spL L x.id x.domain x.level) hA1 hAt) rfl rfl) ?_
          rintro _ _ ⟨rfl, rfl⟩
          refine Ops.pv (pv_move rfl) rfl ?_
          refine Ops.pv (pv_extract rfl rfl) rfl ?_
          refine Ops.pv (pv_extract rfl rfl) rfl ?_
          refine Ops.pv (pv_assign rfl) rfl ?_
          refine Ops.pv (pv_assign rfl) rfl ?_
          refine Ops.nil ?_
          refine Ends.seq ?_
          refine Wp.seq ?_
          refine Wp.region ?_
          refine Ops.pv (pv_move rfl) rfl ?_
          refine Ops.ef rfl (ef_callr (tr_dNow qb1 _ T e l (spL L x.id x.domain x.level) hB1 hAt) rfl rfl) ?_
          rintro _ _ ⟨rfl, rfl⟩
          refine Ops.pv (pv_move rfl) rfl ?_
          refine Ops.pv (pv_extract rfl rfl) rfl ?_
          refine Ops.pv (pv_extract rfl rfl) rfl ?_
          refine Ops.pv (pv_assign rfl) rfl ?_
          refine Ops.pv (pv_assign rfl) rfl ?_
          refine Ops.nil ?_
          refine Ends.seq ?_
          refine Wp.seq ?_
          refine Wp.region ?_
          refine Ops.pv (pv_move rfl) rfl ?_
          refine Ops.pv (pv_move rfl) rfl ?_
          refine Ops.pv ((pv_neq rfl rfl).fls (by first | exact fun h => h rfl | decide | omega | assumption)) rfl ?_
          refine Ops.pv (pv_move rfl) rfl ?_
          refine Ops.pvg ⟨_, _, rfl, rfl, rfl⟩ (pv_move rfl) rfl ?_
          refine Ops.pvg ⟨_, _, rfl, rfl, rfl⟩ (pv_move rfl) rfl ?_
          refine Ops.pvg ⟨_, _, rfl, rfl, rfl⟩ ((pv_neq_bool rfl rfl).is (u := .bool false) (by first | rfl | (simp; done) | simp_all)) rfl ?_
          refine Ops.pv (pv_pick_false rfl rfl) rfl ?_
          refine Ops.pv (pv_move rfl) rfl ?_
          refine Ops.pvg ⟨_, _, rfl, rfl, rfl⟩ (pv_move rfl) rfl ?_
          refine Ops.pvg ⟨_, _, rfl, rfl, rfl⟩ (pv_move rfl) rfl ?_
          refine Ops.pvg ⟨_, _, rfl, rfl, rfl⟩ ((pv_neq rfl rfl).fls (by first | exact fun h => h rfl | decide | omega | assumption)) rfl ?_
          refine Ops.pv (pv_pick_false rfl rfl) rfl ?_
          refine Ops.pv (pv_move rfl) rfl ?_
          refine Ops.pvg ⟨_, _, rfl, rfl, rfl⟩ (pv_move rfl) rfl ?_
          refine Ops.pvg ⟨_, _, rfl, rfl, rfl⟩ (pv_move rfl) rfl ?_
          refine Ops.pvg ⟨_, _, rfl, rfl, rfl⟩ ((pv_neq rfl rfl).fls (by first | exact fun h => h rfl | decide | omega | assumption)) rfl ?_
          refine Ops.pv (pv_pick_false rfl rfl) rfl ?_
          refine Ops.pv (pv_move rfl) rfl ?_
          refine Ops.pvg ⟨_, _, rfl, rfl, rfl⟩ (pv_move rfl) rfl ?_
          refine Ops.efg ⟨_, _, rfl, rfl, rfl⟩ (ef_callr (tr_sDomain sb1 _ T e l (spL L x.id x.domain x.level) hA1 hAt) rfl rfl) ?_
          rintro _ _ ⟨rfl, rfl⟩
          refine Ops.pvg ⟨_, _, rfl, rfl, rfl⟩ (pv_move rfl) rfl ?_
          refine Ops.efg ⟨_, _, rfl, rfl, rfl⟩ (ef_callr (tr_dDomain qb1 _ T e l (spL L x.id x.domain x.level) hB1 hAt) rfl rfl) ?_
          rintro _ _ ⟨rfl, rfl⟩
          refine Ops.pvg ⟨_, _, rfl, rfl, rfl⟩ ((pv_neq rfl rfl).fls (by first | exact fun h => h rfl | decide | omega | assumption)) rfl ?_
          refine Ops.pv (pv_pick_false rfl rfl) rfl ?_
          refine Ops.nil ?_
          refine Ends.seq ?_
          refine Wp.cond_false rfl ?_
          refine Wp.skip ?_
          refine Ends.block_normal ?_
          refine Ends.seq ?_
          refine Wp.region ?_
          refine Ops.pv (pv_move rfl) rfl ?_
          first | refine Ops.pv (pv_add rfl rfl (w64 (by omega) (by omega))) rfl ?_ | refine Ops.pv (pv_add rfl rfl rfl) rfl ?_
          refine Ops.pv (pv_assign rfl) rfl ?_
          refine Ops.nil ?_
          refine Ends.goes ?_
          refine Goes.back (hK (i + 1, e, l, (spL L x.id x.domain x.level), _, _) ⟨by dsimp only; omega, hAt, (spW hW x.id x.domain x.level), (spLen hl x.id x.domain x.level), hA1, hB1⟩ (by dsimp only; omega)) ⟨rfl, rfl, rfl, rfl, trivial⟩
        · refine Wp.seq ?_
          refine Wp.region ?_
          refine Ops.pv (pv_eql rfl rfl) rfl ?_
          refine Ops.pv (pv_assign rfl) rfl ?_
          refine Ops.nil ?_
          refine Ends.seq ?_
          first | refine Wp.cond_dect rfl (fun h4 => ?_) (fun h4 => ?_) | refine Wp.cond_t rfl (fun h4 => ?_) (fun h4 => ?_)
          · refine Wp.seq ?_
            refine AnyH.start [(b1, .cells x.cells.toArray 42)] 9 rfl ?_
            refine AnyH.take 0 rfl (by kernel_rfl) (by kernel_rfl) (by kernel_rfl) PF.pf rfl (pv_move rfl) rfl ?_
            first | refine AnyH.take 1 rfl (by kernel_rfl) (by kernel_rfl) (by kernel_rfl) PF.pf rfl (pv_fieldAddr0 rfl rfl) rfl ?_ | refine AnyH.take 1 rfl (by kernel_rfl) (by kernel_rfl) (by kernel_rfl) PF.pf rfl (pv_fieldAddr rfl rfl) rfl ?_
            first | refine AnyH.take 2 rfl (by kernel_rfl) (by kernel_rfl) (by kernel_rfl) PF.pf rfl (pv_load rfl rfl rfl) rfl ?_ | refine AnyH.take 2 rfl (by kernel_rfl) (by kernel_rfl) (by kernel_rfl) PF.pf rfl (pv_load rfl rfl (by assumption)) rfl ?_
            refine AnyH.take 4 rfl (by kernel_rfl) (by kernel_rfl) (by kernel_rfl) PF.pf rfl (pv_move rfl) rfl ?_
            first | refine AnyH.take 5 rfl (by kernel_rfl) (by kernel_rfl) (by kernel_rfl) PF.pf rfl (pv_fieldAddr0 rfl rfl) rfl ?_ | refine AnyH.take 5 rfl (by kernel_rfl) (by kernel_rfl) (by kernel_rfl) PF.pf rfl (pv_fieldAddr rfl rfl) rfl ?_
            first | refine AnyH.take 6 rfl (by kernel_rfl) (by kernel_rfl) (by kernel_rfl) PF.pf rfl (pv_load rfl rfl rfl) rfl ?_ | refine AnyH.take 6 rfl (by kernel_rfl) (by kernel_rfl) (by kernel_rfl) PF.pf rfl (pv_load rfl rfl (by assumption)) rfl ?_
            refine AnyH.one 3 (by kernel_rfl) ?_
            refine Turn.ef rfl rfl (ef_call (tr_sDrop sb1 _ T e l L hA hAt hW (hl.mono (by omega)) x.id) rfl rfl) ?_ ?_
            · rintro _ _ ⟨_, _, ⟨rfl, hA2⟩, rfl, rfl⟩; infer_instance
            rintro _ _ ⟨_, _, ⟨rfl, hA2⟩, rfl, rfl⟩
            refine AnyH.app ?_
            refine AnyH.one 7 (by kernel_rfl) ?_
            refine Turn.ef rfl rfl (ef_call (tr_dDrop qb1 _ T e l L hB hAt hW (hl.mono (by omega)) x.id) rfl rfl) ?_ ?_
            · rintro _ _ ⟨_, _, ⟨rfl, hB2⟩, rfl, rfl⟩; infer_instance
            rintro _ _ ⟨_, _, ⟨rfl, hB2⟩, rfl, rfl⟩
            refine AnyH.app ?_
            refine AnyH.take 8 rfl (by kernel_rfl) (by kernel_rfl) (by kernel_rfl) PF.pf rfl ((pv_neq_bool rfl rfl).is (u := .bool false) (by first | rfl | (simp; done) | simp_all)) rfl ?_
            refine AnyH.done (by kernel_rfl) ?_
            refine Ends.seq ?_
            refine Wp.cond_false rfl ?_
            refine Wp.skip ?_
            refine Ends.block_normal ?_
            refine Ends.seq ?_
            refine Wp.seq ?_
            refine Wp.region ?_
            refine Ops.pv (pv_move rfl) rfl ?_
            refine Ops.ef rfl (ef_callr (tr_sPick sb1 _ T e l (sdL L x.id) hA2 hAt (sdW hW x.id) ((sdLen hl x.id).mono (by omega))) rfl rfl) ?_
            rintro _ _ ⟨rfl, rfl⟩
            refine Ops.pv (pv_move rfl) rfl ?_
            refine Ops.pv (pv_extract rfl rfl) rfl ?_
            refine Ops.pv (pv_extract rfl rfl) rfl ?_
            refine Ops.pv (pv_assign rfl) rfl ?_
            refine Ops.pv (pv_assign rfl) rfl ?_
            refine Ops.nil ?_
            refine Ends.seq ?_
            refine Wp.seq ?_
            refine Wp.region ?_
            refine Ops.pv (pv_move rfl) rfl ?_
            refine Ops.ef rfl (ef_callr (tr_dPick qb1 _ T e l (sdL L x.id) hB2 hAt (sdW hW x.id) ((sdLen hl x.id).mono (by omega))) rfl rfl) ?_
            rintro _ _ ⟨rfl, rfl⟩
            refine Ops.pv (pv_move rfl) rfl ?_
            refine Ops.pv (pv_extract rfl rfl) rfl ?_
            refine Ops.pv (pv_extract rfl rfl) rfl ?_
            refine Ops.pv (pv_assign rfl) rfl ?_
            refine Ops.pv (pv_assign rfl) rfl ?_
            refine Ops.nil ?_
            refine Ends.seq ?_
            refine Wp.seq ?_
            refine Wp.region ?_
            refine Ops.pv (pv_move rfl) rfl ?_
            refine Ops.ef rfl (ef_callr (tr_sNow sb1 _ T e l (sdL L x.id) hA2 hAt) rfl rfl) ?_
            rintro _ _ ⟨rfl, rfl⟩
            refine Ops.pv (pv_move rfl) rfl ?_
            refine Ops.pv (pv_extract rfl rfl) rfl ?_
            refine Ops.pv (pv_extract rfl rfl) rfl ?_
            refine Ops.pv (pv_assign rfl) rfl ?_
            refine Ops.pv (pv_assign rfl) rfl ?_
            refine Ops.nil ?_
            refine Ends.seq ?_
            refine Wp.seq ?_
            refine Wp.region ?_
            refine Ops.pv (pv_move rfl) rfl ?_
            refine Ops.ef rfl (ef_callr (tr_dNow qb1 _ T e l (sdL L x.id) hB2 hAt) rfl rfl) ?_
            rintro _ _ ⟨rfl, rfl⟩
            refine Ops.pv (pv_move rfl) rfl ?_
            refine Ops.pv (pv_extract rfl rfl) rfl ?_
            refine Ops.pv (pv_extract rfl rfl) rfl ?_
            refine Ops.pv (pv_assign rfl) rfl ?_
            refine Ops.pv (pv_assign rfl) rfl ?_
            refine Ops.nil ?_
            refine Ends.seq ?_
            refine Wp.seq ?_
            refine Wp.region ?_
            refine Ops.pv (pv_move rfl) rfl ?_
            refine Ops.pv (pv_move rfl) rfl ?_
            refine Ops.pv ((pv_neq rfl rfl).fls (by first | exact fun h => h rfl | decide | omega | assumption)) rfl ?_
            refine Ops.pv (pv_move rfl) rfl ?_
            refine Ops.pvg ⟨_, _, rfl, rfl, rfl⟩ (pv_move rfl) rfl ?_
            refine Ops.pvg ⟨_, _, rfl, rfl, rfl⟩ (pv_move rfl) rfl ?_
            refine Ops.pvg ⟨_, _, rfl, rfl, rfl⟩ ((pv_neq_bool rfl rfl).is (u := .bool false) (by first | rfl | (simp; done) | simp_all)) rfl ?_
            refine Ops.pv (pv_pick_false rfl rfl) rfl ?_
            refine Ops.pv (pv_move rfl) rfl ?_
            refine Ops.pvg ⟨_, _, rfl, rfl, rfl⟩ (pv_move rfl) rfl ?_
            refine Ops.pvg ⟨_, _, rfl, rfl, rfl⟩ (pv_move rfl) rfl ?_
            refine Ops.pvg ⟨_, _, rfl, rfl, rfl⟩ ((pv_neq rfl rfl).fls (by first | exact fun h => h rfl | decide | omega | assumption)) rfl ?_
            refine Ops.pv (pv_pick_false rfl rfl) rfl ?_
            refine Ops.pv (pv_move rfl) rfl ?_
            refine Ops.pvg ⟨_, _, rfl, rfl, rfl⟩ (pv_move rfl) rfl ?_
            refine Ops.pvg ⟨_, _, rfl, rfl, rfl⟩ (pv_move rfl) rfl ?_
            refine Ops.pvg ⟨_, _, rfl, rfl, rfl⟩ ((pv_neq rfl rfl).fls (by first | exact fun h => h rfl | decide | omega | assumption)) rfl ?_
            refine Ops.pv (pv_pick_false rfl rfl) rfl ?_
            refine Ops.pv (pv_move rfl) rfl ?_
            refine Ops.pvg ⟨_, _, rfl, rfl, rfl⟩ (pv_move rfl) rfl ?_
            refine Ops.efg ⟨_, _, rfl, rfl, rfl⟩ (ef_callr (tr_sDomain sb1 _ T e l (sdL L x.id) hA2 hAt) rfl rfl) ?_
            rintro _ _ ⟨rfl, rfl⟩
            refine Ops.pvg ⟨_, _, rfl, rfl, rfl⟩ (pv_move rfl) rfl ?_
            refine Ops.efg ⟨_, _, rfl, rfl, rfl⟩ (ef_callr (tr_dDomain qb1 _ T e l (sdL L x.id) hB2 hAt) rfl rfl) ?_
            rintro _ _ ⟨rfl, rfl⟩
            refine Ops.pvg ⟨_, _, rfl, rfl, rfl⟩ ((pv_neq rfl rfl).fls (by first | exact fun h => h rfl | decide | omega | assumption)) rfl ?_
            refine Ops.pv (pv_pick_false rfl rfl) rfl ?_
            refine Ops.nil ?_
            refine Ends.seq ?_
            refine Wp.cond_false rfl ?_
            refine Wp.skip ?_
            refine Ends.block_normal ?_
            refine Ends.seq ?_
            refine Wp.region ?_
            refine Ops.pv (pv_move rfl) rfl ?_
            first | refine Ops.pv (pv_add rfl rfl (w64 (by omega) (by omega))) rfl ?_ | refine Ops.pv (pv_add rfl rfl rfl) rfl ?_
            refine Ops.pv (pv_assign rfl) rfl ?_
            refine Ops.nil ?_
            refine Ends.goes ?_
            refine Goes.back (hK (i + 1, e, l, (sdL L x.id), _, _) ⟨by dsimp only; omega, hAt, (sdW hW x.id), (sdLen hl x.id), hA2, hB2⟩ (by dsimp only; omega)) ⟨rfl, rfl, rfl, rfl, trivial⟩
          · refine Wp.seq ?_
            refine Wp.region ?_
            refine Ops.pv (pv_eql rfl rfl) rfl ?_
            refine Ops.pv (pv_assign rfl) rfl ?_
            refine Ops.nil ?_
            refine Ends.seq ?_
            first | refine Wp.cond_dect rfl (fun h5 => ?_) (fun h5 => ?_) | refine Wp.cond_t rfl (fun h5 => ?_) (fun h5 => ?_)
            · refine Wp.seq ?_
              refine AnyH.start [(b1, .cells x.cells.toArray 42)] 9 rfl ?_
              refine AnyH.take 0 rfl (by kernel_rfl) (by kernel_rfl) (by kernel_rfl) PF.pf rfl (pv_move rfl) rfl ?_
              first | refine AnyH.take 1 rfl (by kernel_rfl) (by kernel_rfl) (by kernel_rfl) PF.pf rfl (pv_fieldAddr0 rfl rfl) rfl ?_ | refine AnyH.take 1 rfl (by kernel_rfl) (by kernel_rfl) (by kernel_rfl) PF.pf rfl (pv_fieldAddr rfl rfl) rfl ?_
              first | refine AnyH.take 2 rfl (by kernel_rfl) (by kernel_rfl) (by kernel_rfl) PF.pf rfl (pv_load rfl rfl rfl) rfl ?_ | refine AnyH.take 2 rfl (by kernel_rfl) (by kernel_rfl) (by kernel_rfl) PF.pf rfl (pv_load rfl rfl (by assumption)) rfl ?_
              refine AnyH.take 4 rfl (by kernel_rfl) (by kernel_rfl) (by kernel_rfl) PF.pf rfl (pv_move rfl) rfl ?_
              first | refine AnyH.take 5 rfl (by kernel_rfl) (by kernel_rfl) (by kernel_rfl) PF.pf rfl (pv_fieldAddr0 rfl rfl) rfl ?_ | refine AnyH.take 5 rfl (by kernel_rfl) (by kernel_rfl) (by kernel_rfl) PF.pf rfl (pv_fieldAddr rfl rfl) rfl ?_
              first | refine AnyH.take 6 rfl (by kernel_rfl) (by kernel_rfl) (by kernel_rfl) PF.pf rfl (pv_load rfl rfl rfl) rfl ?_ | refine AnyH.take 6 rfl (by kernel_rfl) (by kernel_rfl) (by kernel_rfl) PF.pf rfl (pv_load rfl rfl (by assumption)) rfl ?_
              refine AnyH.one 3 (by kernel_rfl) ?_
              refine Turn.ef rfl rfl (ef_call (tr_sYield sb1 _ T e l L hA hAt hW (hl.mono (by omega)) x.id) rfl rfl) ?_ ?_
              · rintro _ _ ⟨_, _, ⟨rfl, hA3⟩, rfl, rfl⟩; infer_instance
              rintro _ _ ⟨_, _, ⟨rfl, hA3⟩, rfl, rfl⟩
              refine AnyH.app ?_
              refine AnyH.one 7 (by kernel_rfl) ?_
              refine Turn.ef rfl rfl (ef_call (tr_dYield qb1 _ T e l L hB hAt hW (hl.mono (by omega)) x.id) rfl rfl) ?_ ?_
              · rintro _ _ ⟨_, _, ⟨rfl, hB3⟩, rfl, rfl⟩; infer_instance
              rintro _ _ ⟨_, _, ⟨rfl, hB3⟩, rfl, rfl⟩
              refine AnyH.app ?_
              refine AnyH.take 8 rfl (by kernel_rfl) (by kernel_rfl) (by kernel_rfl) PF.pf rfl ((pv_neq_bool rfl rfl).is (u := .bool false) (by first | rfl | (simp; done) | simp_all)) rfl ?_
              refine AnyH.done (by kernel_rfl) ?_
              refine Ends.seq ?_
              refine Wp.cond_false rfl ?_
              refine Wp.skip ?_
              refine Ends.block_normal ?_
              refine Ends.seq ?_
              refine Wp.seq ?_
              refine Wp.region ?_
              refine Ops.pv (pv_move rfl) rfl ?_
              refine Ops.ef rfl (ef_callr (tr_sPick sb1 _ T e l (syL L x.id) hA3 hAt (syW hW x.id) ((syLen hl x.id).mono (by omega))) rfl rfl) ?_
              rintro _ _ ⟨rfl, rfl⟩
              refine Ops.pv (pv_move rfl) rfl ?_
              refine Ops.pv (pv_extract rfl rfl) rfl ?_
              refine Ops.pv (pv_extract rfl rfl) rfl ?_
              refine Ops.pv (pv_assign rfl) rfl ?_
              refine Ops.pv (pv_assign rfl) rfl ?_
              refine Ops.nil ?_
              refine Ends.seq ?_
              refine Wp.seq ?_
              refine Wp.region ?_
              refine Ops.pv (pv_move rfl) rfl ?_
              refine Ops.ef rfl (ef_callr (tr_dPick qb1 _ T e l (syL L x.id) hB3 hAt (syW hW x.id) ((syLen hl x.id).mono (by omega))) rfl rfl) ?_
              rintro _ _ ⟨rfl, rfl⟩
              refine Ops.pv (pv_move rfl) rfl ?_
              refine Ops.pv (pv_extract rfl rfl) rfl ?_
              refine Ops.pv (pv_extract rfl rfl) rfl ?_
              refine Ops.pv (pv_assign rfl) rfl ?_
              refine Ops.pv (pv_assign rfl) rfl ?_
              refine Ops.nil ?_
              refine Ends.seq ?_
              refine Wp.seq ?_
              refine Wp.region ?_
              refine Ops.pv (pv_move rfl) rfl ?_
              refine Ops.ef rfl (ef_callr (tr_sNow sb1 _ T e l (syL L x.id) hA3 hAt) rfl rfl) ?_
              rintro _ _ ⟨rfl, rfl⟩
              refine Ops.pv (pv_move rfl) rfl ?_
              refine Ops.pv (pv_extract rfl rfl) rfl ?_
              refine Ops.pv (pv_extract rfl rfl) rfl ?_
              refine Ops.pv (pv_assign rfl) rfl ?_
              refine Ops.pv (pv_assign rfl) rfl ?_
              refine Ops.nil ?_
              refine Ends.seq ?_
              refine Wp.seq ?_
              refine Wp.region ?_
              refine Ops.pv (pv_move rfl) rfl ?_
              refine Ops.ef rfl (ef_callr (tr_dNow qb1 _ T e l (syL L x.id) hB3 hAt) rfl rfl) ?_
              rintro _ _ ⟨rfl, rfl⟩
              refine Ops.pv (pv_move rfl) rfl ?_
              refine Ops.pv (pv_extract rfl rfl) rfl ?_
              refine Ops.pv (pv_extract rfl rfl) rfl ?_
              refine Ops.pv (pv_assign rfl) rfl ?_
              refine Ops.pv (pv_assign rfl) rfl ?_
              refine Ops.nil ?_
              refine Ends.seq ?_
              refine Wp.seq ?_
              refine Wp.region ?_
              refine Ops.pv (pv_move rfl) rfl ?_
              refine Ops.pv (pv_move rfl) rfl ?_
              refine Ops.pv ((pv_neq rfl rfl).fls (by first | exact fun h => h rfl | decide | omega | assumption)) rfl ?_
              refine Ops.pv (pv_move rfl) rfl ?_
              refine Ops.pvg ⟨_, _, rfl, rfl, rfl⟩ (pv_move rfl) rfl ?_
              refine Ops.pvg ⟨_, _, rfl, rfl, rfl⟩ (pv_move rfl) rfl ?_
              refine Ops.pvg ⟨_, _, rfl, rfl, rfl⟩ ((pv_neq_bool rfl rfl).is (u := .bool false) (by first | rfl | (simp; done) | simp_all)) rfl ?_
              refine Ops.pv (pv_pick_false rfl rfl) rfl ?_
              refine Ops.pv (pv_move rfl) rfl ?_
              refine Ops.pvg ⟨_, _, rfl, rfl, rfl⟩ (pv_move rfl) rfl ?_
              refine Ops.pvg ⟨_, _, rfl, rfl, rfl⟩ (pv_move rfl) rfl ?_
              refine Ops.pvg ⟨_, _, rfl, rfl, rfl⟩ ((pv_neq rfl rfl).fls (by first | exact fun h => h rfl | decide | omega | assumption)) rfl ?_
              refine Ops.pv (pv_pick_false rfl rfl) rfl ?_
              refine Ops.pv (pv_move rfl) rfl ?_
              refine Ops.pvg ⟨_, _, rfl, rfl, rfl⟩ (pv_move rfl) rfl ?_
              refine Ops.pvg ⟨_, _, rfl, rfl, rfl⟩ (pv_move rfl) rfl ?_
              refine Ops.pvg ⟨_, _, rfl, rfl, rfl⟩ ((pv_neq rfl rfl).fls (by first | exact fun h => h rfl | decide | omega | assumption)) rfl ?_
              refine Ops.pv (pv_pick_false rfl rfl) rfl ?_
              refine Ops.pv (pv_move rfl) rfl ?_
              refine Ops.pvg ⟨_, _, rfl, rfl, rfl⟩ (pv_move rfl) rfl ?_
              refine Ops.efg ⟨_, _, rfl, rfl, rfl⟩ (ef_callr (tr_sDomain sb1 _ T e l (syL L x.id) hA3 hAt) rfl rfl) ?_
              rintro _ _ ⟨rfl, rfl⟩
              refine Ops.pvg ⟨_, _, rfl, rfl, rfl⟩ (pv_move rfl) rfl ?_
              refine Ops.efg ⟨_, _, rfl, rfl, rfl⟩ (ef_callr (tr_dDomain qb1 _ T e l (syL L x.id) hB3 hAt) rfl rfl) ?_
              rintro _ _ ⟨rfl, rfl⟩
              refine Ops.pvg ⟨_, _, rfl, rfl, rfl⟩ ((pv_neq rfl rfl).fls (by first | exact fun h => h rfl | decide | omega | assumption)) rfl ?_
              refine Ops.pv (pv_pick_false rfl rfl) rfl ?_
              refine Ops.nil ?_
              refine Ends.seq ?_
              refine Wp.cond_false rfl ?_
              refine Wp.skip ?_
              refine Ends.block_normal ?_
              refine Ends.seq ?_
              refine Wp.region ?_
              refine Ops.pv (pv_move rfl) rfl ?_
              first | refine Ops.pv (pv_add rfl rfl (w64 (by omega) (by omega))) rfl ?_ | refine Ops.pv (pv_add rfl rfl rfl) rfl ?_
              refine Ops.pv (pv_assign rfl) rfl ?_
              refine Ops.nil ?_
              refine Ends.goes ?_
              refine Goes.back (hK (i + 1, e, l, (syL L x.id), _, _) ⟨by dsimp only; omega, hAt, (syW hW x.id), (syLen hl x.id), hA3, hB3⟩ (by dsimp only; omega)) ⟨rfl, rfl, rfl, rfl, trivial⟩
            · refine Wp.seq ?_
              refine Wp.region ?_
              refine Ops.pv (pv_move rfl) rfl ?_
              refine Ops.ef rfl (ef_call (tr_sTick sb1 _ T e l L hA hAt) rfl rfl) ?_
              rintro _ _ ⟨_, _, ⟨rfl, hA4⟩, rfl, rfl⟩
              refine Ops.app ?_
              refine Ops.pv (pv_move rfl) rfl ?_
              refine Ops.ef rfl (ef_call (tr_dTick qb1 _ T e l L hB hAt) rfl rfl) ?_
              rintro _ _ ⟨_, _, ⟨rfl, hB4⟩, rfl, rfl⟩
              refine Ops.app ?_
              refine Ops.pv ((pv_neq_bool rfl rfl).is (u := .bool false) (by first | rfl | (simp; done) | simp_all)) rfl ?_
              refine Ops.nil ?_
              refine Ends.seq ?_
              refine Wp.cond_false rfl ?_
              refine Wp.skip ?_
              refine Ends.block_normal ?_
              refine Ends.seq ?_
              refine Wp.seq ?_
              refine Wp.region ?_
              refine Ops.pv (pv_move rfl) rfl ?_
              refine Ops.ef rfl (ef_callr (tr_sPick sb1 _ T (nxE T e l) (nxL T e l) L hA4 hAt.next hW ((hl.mono (Nat.le_succ i)).mono (by omega))) rfl rfl) ?_
              rintro _ _ ⟨rfl, rfl⟩
              refine Ops.pv (pv_move rfl) rfl ?_
              refine Ops.pv (pv_extract rfl rfl) rfl ?_
              refine Ops.pv (pv_extract rfl rfl) rfl ?_
              refine Ops.pv (pv_assign rfl) rfl ?_
              refine Ops.pv (pv_assign rfl) rfl ?_
              refine Ops.nil ?_
              refine Ends.seq ?_
              refine Wp.seq ?_
              refine Wp.region ?_
              refine Ops.pv (pv_move rfl) rfl ?_
              refine Ops.ef rfl (ef_callr (tr_dPick qb1 _ T (nxE T e l) (nxL T e l) L hB4 hAt.next hW ((hl.mono (Nat.le_succ i)).mono (by omega))) rfl rfl) ?_
              rintro _ _ ⟨rfl, rfl⟩
              refine Ops.pv (pv_move rfl) rfl ?_
              refine Ops.pv (pv_extract rfl rfl) rfl ?_
              refine Ops.pv (pv_extract rfl rfl) rfl ?_
              refine Ops.pv (pv_assign rfl) rfl ?_
              refine Ops.pv (pv_assign rfl) rfl ?_
              refine Ops.nil ?_
              refine Ends.seq ?_
              refine Wp.seq ?_
              refine Wp.region ?_
              refine Ops.pv (pv_move rfl) rfl ?_
              refine Ops.ef rfl (ef_callr (tr_sNow sb1 _ T (nxE T e l) (nxL T e l) L hA4 hAt.next) rfl rfl) ?_
              rintro _ _ ⟨rfl, rfl⟩
              refine Ops.pv (pv_move rfl) rfl ?_
              refine Ops.pv (pv_extract rfl rfl) rfl ?_
              refine Ops.pv (pv_extract rfl rfl) rfl ?_
              refine Ops.pv (pv_assign rfl) rfl ?_
              refine Ops.pv (pv_assign rfl) rfl ?_
              refine Ops.nil ?_
              refine Ends.seq ?_
              refine Wp.seq ?_
              refine Wp.region ?_
              refine Ops.pv (pv_move rfl) rfl ?_
              refine Ops.ef rfl (ef_callr (tr_dNow qb1 _ T (nxE T e l) (nxL T e l) L hB4 hAt.next) rfl rfl) ?_
              rintro _ _ ⟨rfl, rfl⟩
              refine Ops.pv (pv_move rfl) rfl ?_
              refine Ops.pv (pv_extract rfl rfl) rfl ?_
              refine Ops.pv (pv_extract rfl rfl) rfl ?_
              refine Ops.pv (pv_assign rfl) rfl ?_
              refine Ops.pv (pv_assign rfl) rfl ?_
              refine Ops.nil ?_
              refine Ends.seq ?_
              refine Wp.seq ?_
              refine Wp.region ?_
              refine Ops.pv (pv_move rfl) rfl ?_
              refine Ops.pv (pv_move rfl) rfl ?_
              refine Ops.pv ((pv_neq rfl rfl).fls (by first | exact fun h => h rfl | decide | omega | assumption)) rfl ?_
              refine Ops.pv (pv_move rfl) rfl ?_
              refine Ops.pvg ⟨_, _, rfl, rfl, rfl⟩ (pv_move rfl) rfl ?_
              refine Ops.pvg ⟨_, _, rfl, rfl, rfl⟩ (pv_move rfl) rfl ?_
              refine Ops.pvg ⟨_, _, rfl, rfl, rfl⟩ ((pv_neq_bool rfl rfl).is (u := .bool false) (by first | rfl | (simp; done) | simp_all)) rfl ?_
              refine Ops.pv (pv_pick_false rfl rfl) rfl ?_
              refine Ops.pv (pv_move rfl) rfl ?_
              refine Ops.pvg ⟨_, _, rfl, rfl, rfl⟩ (pv_move rfl) rfl ?_
              refine Ops.pvg ⟨_, _, rfl, rfl, rfl⟩ (pv_move rfl) rfl ?_
              refine Ops.pvg ⟨_, _, rfl, rfl, rfl⟩ ((pv_neq rfl rfl).fls (by first | exact fun h => h rfl | decide | omega | assumption)) rfl ?_
              refine Ops.pv (pv_pick_false rfl rfl) rfl ?_
              refine Ops.pv (pv_move rfl) rfl ?_
              refine Ops.pvg ⟨_, _, rfl, rfl, rfl⟩ (pv_move rfl) rfl ?_
              refine Ops.pvg ⟨_, _, rfl, rfl, rfl⟩ (pv_move rfl) rfl ?_
              refine Ops.pvg ⟨_, _, rfl, rfl, rfl⟩ ((pv_neq rfl rfl).fls (by first | exact fun h => h rfl | decide | omega | assumption)) rfl ?_
              refine Ops.pv (pv_pick_false rfl rfl) rfl ?_
              refine Ops.pv (pv_move rfl) rfl ?_
              refine Ops.pvg ⟨_, _, rfl, rfl, rfl⟩ (pv_move rfl) rfl ?_
              refine Ops.efg ⟨_, _, rfl, rfl, rfl⟩ (ef_callr (tr_sDomain sb1 _ T (nxE T e l) (nxL T e l) L hA4 hAt.next) rfl rfl) ?_
              rintro _ _ ⟨rfl, rfl⟩
              refine Ops.pvg ⟨_, _, rfl, rfl, rfl⟩ (pv_move rfl) rfl ?_
              refine Ops.efg ⟨_, _, rfl, rfl, rfl⟩ (ef_callr (tr_dDomain qb1 _ T (nxE T e l) (nxL T e l) L hB4 hAt.next) rfl rfl) ?_
              rintro _ _ ⟨rfl, rfl⟩
              refine Ops.pvg ⟨_, _, rfl, rfl, rfl⟩ ((pv_neq rfl rfl).fls (by first | exact fun h => h rfl | decide | omega | assumption)) rfl ?_
              refine Ops.pv (pv_pick_false rfl rfl) rfl ?_
              refine Ops.nil ?_
              refine Ends.seq ?_
              refine Wp.cond_false rfl ?_
              refine Wp.skip ?_
              refine Ends.block_normal ?_
              refine Ends.seq ?_
              refine Wp.region ?_
              refine Ops.pv (pv_move rfl) rfl ?_
              first | refine Ops.pv (pv_add rfl rfl (w64 (by omega) (by omega))) rfl ?_ | refine Ops.pv (pv_add rfl rfl rfl) rfl ?_
              refine Ops.pv (pv_assign rfl) rfl ?_
              refine Ops.nil ?_
              refine Ends.goes ?_
              refine Goes.back (hK (i + 1, (nxE T e l), (nxL T e l), L, _, _) ⟨by dsimp only; omega, hAt.next, hW, (hl.mono (Nat.le_succ i)), hA4, hB4⟩ (by dsimp only; omega)) ⟨rfl, rfl, rfl, rfl, trivial⟩
      · refine Wp.exit ?_
        refine Ends.then_exit ?_
        refine Ends.then_exit ?_
        refine Ends.block_hit ?_
        refine Ends.seq ?_
        refine Wp.seq ?_
        refine Wp.region ?_
        refine Ops.pv (pv_assign rfl) rfl ?_
        refine Ops.nil ?_
        refine Ends.seq ?_
        refine Wp.ret ?_
        exact Ends.ret (res1 rfl rfl) ⟨rfl, rfl⟩
    · refine Wp.skip ?_
      refine Ends.seq ?_
      refine Wp.seq ?_
      refine Wp.region ?_
      refine Ops.pv (pv_move rfl) rfl ?_
      refine Ops.ef rfl (ef_call (tr_to G ta tc T hv (by omega)) rfl rfl) ?_
      rintro _ _ ⟨_, _, ⟨C2, hc2, rfl⟩, rfl, rfl⟩
      refine Ops.app ?_
      obtain ⟨p2, q2, rfl⟩ := hc2.form
      refine Ops.ef rfl (ef_callr (tr_sNewBad C2 _ _ T hc2.view (by omega) hT) rfl rfl) ?_
      rintro _ _ ⟨rfl, rfl⟩
      refine Ops.pv (pv_move rfl) rfl ?_
      refine Ops.pv (pv_extract rfl rfl) rfl ?_
      refine Ops.pv (pv_extract rfl rfl) rfl ?_
      refine Ops.pv (pv_assign rfl) rfl ?_
      refine Ops.pv (pv_assign rfl) rfl ?_
      refine Ops.nil ?_
      refine Ends.seq ?_
      refine Wp.seq ?_
      refine Wp.region ?_
      refine Ops.pv (pv_move rfl) rfl ?_
      refine Ops.ef rfl (ef_callr (tr_dNewBad G _ _ T hv (by omega) hT) rfl rfl) ?_
      rintro _ _ ⟨rfl, rfl⟩
      refine Ops.pv (pv_move rfl) rfl ?_
      refine Ops.pv (pv_extract rfl rfl) rfl ?_
      refine Ops.pv (pv_extract rfl rfl) rfl ?_
      refine Ops.pv (pv_assign rfl) rfl ?_
      refine Ops.pv (pv_assign rfl) rfl ?_
      refine Ops.nil ?_
      refine Ends.seq ?_
      refine Wp.seq ?_
      refine Wp.seq ?_
      refine Wp.region ?_
      refine Ops.pv (pv_move rfl) rfl ?_
      refine Ops.pv (pv_move rfl) rfl ?_
      refine Ops.pv ((pv_neq rfl rfl).fls (by first | exact fun h => h rfl | decide | omega | assumption)) rfl ?_
      refine Ops.pv (pv_move rfl) rfl ?_
      refine Ops.pvg ⟨_, _, rfl, rfl, rfl⟩ (pv_move rfl) rfl ?_
      refine Ops.pvg ⟨_, _, rfl, rfl, rfl⟩ ((pv_neq rfl rfl).tru (by first | rfl | decide | omega | assumption | (simp; done) | (simp; omega))) rfl ?_
      refine Ops.pv (pv_pick_false rfl rfl) rfl ?_
      refine Ops.pv (pv_move rfl) rfl ?_
      refine Ops.skipg ⟨_, _, rfl, rfl, rfl⟩ rfl ?_
      refine Ops.skipg ⟨_, _, rfl, rfl, rfl⟩ rfl ?_
      refine Ops.pv (pv_pick_true rfl rfl) rfl ?_
      refine Ops.nil ?_
      refine Ends.seq ?_
      refine Wp.cond_true rfl ?_
      refine Wp.seq ?_
      refine Wp.region ?_
      refine Ops.pv (pv_move rfl) rfl ?_
      refine Ops.pv (pv_move rfl) rfl ?_
      refine Ops.pv ((pv_eql rfl rfl).tru (by first | rfl | decide | omega | assumption | (simp; done) | (simp; omega))) rfl ?_
      refine Ops.pv (pv_move rfl) rfl ?_
      refine Ops.pvg ⟨_, _, rfl, rfl, rfl⟩ (pv_move rfl) rfl ?_
      refine Ops.pvg ⟨_, _, rfl, rfl, rfl⟩ ((pv_neq rfl rfl).tru (by first | rfl | decide | omega | assumption | (simp; done) | (simp; omega))) rfl ?_
      refine Ops.pv (pv_pick_true rfl rfl) rfl ?_
      refine Ops.pv (pv_move rfl) rfl ?_
      refine Ops.pvg ⟨_, _, rfl, rfl, rfl⟩ (pv_move rfl) rfl ?_
      refine Ops.pvg ⟨_, _, rfl, rfl, rfl⟩ (pv_eql_nil rfl rfl) rfl ?_
      refine Ops.pv (pv_pick_true rfl rfl) rfl ?_
      refine Ops.pv (pv_assign rfl) rfl ?_
      refine Ops.nil ?_
      refine Ends.seq ?_
      refine Wp.ret ?_
      refine Ends.then_ret ?_
      exact Ends.ret (res1 rfl rfl) ⟨rfl, rfl⟩

end Go.Proofs.Ytpjodkcghiklcab
