/- KernelRightless. Laid together by pack.py out of the texts in wip. -/
import Derived.Test.YtipncceiekalfaaGreatPKernelRightless6
set_option linter.unusedVariables false
set_option linter.unusedSimpArgs false
set_option linter.unusedSectionVars false
namespace Go.Proofs.YtipncceiekalfaaGreat.kernelRightless
open Go.ChangeShapes Go.WideShapes Go.ChangeAt Go.RowKit
set_option linter.unusedVariables false
open Go.SL (FlatTy FlatFs flat_arg flat_slice ArgS allHp)
instance fl22 : FlatTy Tryz.prog 22 [some .u64] := FlatTy.int Tryz.underlying22 (by kernel_rfl)
theorem own : ownKnob Tryz.prog.godebug = none := by kernel_rfl
theorem laidOut : laidOutB Tryz.prog = true := by kernel_rfl
theorem walk (w : World) (a0 : Int) (a1 : Int) (x2 : Option Addr) (c2 : Nat) (l2 : List Int) (w0 : (Lit.int .i64 a0).wf = true) (w1 : (Lit.int .i64 a1).wf = true) (w2 : ∀ o ∈ l2, (fun x : Int => U64 x) o) (y2 : (l2.map (fun x => [Value.int .u64 x])).length ≤ maxLen) (z2 : ArgS (allHp w) 1 x2 (l2.map (fun x => [Value.int .u64 x]))) (q2 : (l2.map (fun x => [Value.int .u64 x])).length ≤ c2) (s2 : (l2.map (fun x => [Value.int .u64 x])).length * 8 ≤ 140737488351232) :
    Calls Tryz.prog 7 #[.int .i64 a0, .int .i64 a1, .slice x2 (l2.map (fun x => [Value.int .u64 x])).length c2] w fun e w' => e = .returned (.bool true) ∧ Below w.heap.size w w' := by
  rw [List.length_map] at y2 q2 s2 ⊢
  exact (tr_kernelRightless a0 a1 (Go.SL.allHp w) x2 c2 l2 (words_view (Go.SL.own_all w).nd z2 q2) (by omega) w2).callsG
set_option maxRecDepth 100000 in
theorem lifted (os : Os) (started : os.Started) (H : Type) (enc : TypeId × Value → H) :
    ReturnsInHanded {} Tryz.checked os 7 .any (Rows.kernelRightlessSpec.pre6 enc Tryz.prog Tryz.f7 Rows.kernelRightlessRow.domain false) (Rows.kernelRightlessSpec.post enc Tryz.prog Tryz.f7 false true false false) := by
  refine returnsInHanded_of_change_sized (C := Tryz.checked) own started (by kernel_rfl) Tryz.func7
    (ChangeSpec.witness6 (enc := enc) (C := Tryz.checked) false ⟨#[], #[.int .i64 0, .int .i64 0, .slice none 0 0], []⟩ 8 (by kernel_rfl) (by kernel_rfl) (by kernel_rfl) (by kernel_rfl)) ?_
  intro W base args ds gs before hval0 hW hcnd hsz _
  have hval : ∀ (j : Nat) t v, Tryz.f7.params[j]? = some t → args[j]? = some v → Value.okWide Tryz.prog W .any base t v := hval0
  have hW' := hW
  obtain ⟨p, q, hA0, hV, rfl, hfz, hnd⟩ := hW
  have hA : DataW.TrodAll enc Tryz.prog W 0 (fun _ => true) true Tryz.f7.params.toList args.toList ds p := hA0
  rw [Tryz.params7] at hA hval
  obtain ⟨v0, vs0, d0, ds0, p0, q0, hargs, rfl, rfl, h0, r0⟩ := trodAll_cons hA
  obtain ⟨v1, vs1, d1, ds1, p1, q1, rfl, rfl, rfl, h1, r1⟩ := trodAll_cons r0
  obtain ⟨v2, vs2, d2, ds2, p2, q2, rfl, rfl, rfl, h2, r2⟩ := trodAll_cons r1
  obtain ⟨rfl, rfl, rfl⟩ := trodAll_nil r2
  obtain rfl : args = #[v0, v1, v2] := by cases args; simp_all
  obtain ⟨rfl, rfl⟩ := trodVars_none hV
  obtain ⟨a0, rfl, rfl, rfl, w0⟩ := open_int Tryz.underlying3 (hval 0 3 v0 rfl rfl) h0
  obtain ⟨a1, rfl, rfl, rfl, w1⟩ := open_int Tryz.underlying3 (hval 1 3 v1 rfl rfl) h1
  have k2 := h2
  have lt2 : ∀ x ∈ p2, x.block < W.heap.size := by obtain ⟨m, hm⟩ := k2; exact DataW.trod_lt m _ _ _ hm
  obtain ⟨x2, c2, els2, rfl, y2, q2, fe2, z2⟩ := Go.SL.flat_slice2 Tryz.underlying25 (by decide) (okWide_slice Tryz.underlying25 (hval 2 25 v2 rfl rfl)) k2
  have s2 := slice_sized Tryz.underlying25 k2 hsz (j := 2) (by rfl) (by rfl)
  rw [show Tryz.prog.bytesOf 22 = 8 by kernel_rfl, show reachBytes = 140737488351232 by decide] at s2
  obtain ⟨l2, rfl, w2⟩ := as_words fe2
  clear hA0 hval0
  refine (walk W a0 a1 x2 c2 l2 w0 w1 w2 y2 z2 q2 s2).mono fun e W' ⟨he, bel⟩ => ?_
  subst he
  exact ⟨_, rfl, _, _, _, [], _, [], hW', trodAll_mk1 (shut_bool Tryz.underlying4 _), (trodAll_cons_mk (shut_int Tryz.underlying3 w0) (trodAll_cons_mk (shut_int Tryz.underlying3 w1) (trodAll_cons_mk (Below.trod laidOut (by kernel_rfl) (of_decide_eq_true (by kernel_rfl)) k2 bel lt2) trodAll_mk0))), rfl, bel.frame _, fun h => by cases h⟩
theorem over : Rows.kernelRightlessRow.holds Tryz.pinned (OpenSpec.ofChange Rows.kernelRightlessSpec) :=
  OpenClaim.holds_of_wide 7 Tryz.f7 rfl rfl rfl rfl rfl rfl rfl ⟨rfl, rfl, rfl, rfl, rfl⟩ rfl rfl rfl rfl rfl (by kernel_rfl) Tryz.func7 (by kernel_rfl)
    (of_decide_eq_true (by kernel_rfl)) (by unfold Func.isWrapper; first | (rw [if_pos (by decide +kernel)]; kernel_rfl) | (rw [if_neg (by decide +kernel)]; exact ⟨rfl, rfl⟩))
    (fun os started H enc _ => lifted os started H enc)
theorem proved : Rows.KernelRightlessSaid := over
#print axioms proved
end Go.Proofs.YtipncceiekalfaaGreat.kernelRightless
