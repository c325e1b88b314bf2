/- KernelCalls. Laid together by pack.py out of the texts in wip. -/
import Derived.Test.YtipncceiekalfaaGreatPKernelCalls6
set_option linter.unusedVariables false
set_option linter.unusedSimpArgs false
set_option linter.unusedSectionVars false
namespace Go.Proofs.YtipncceiekalfaaGreat.kernelCalls
open Go.ChangeShapes Go.WideShapes Go.ChangeAt Go.RowKit
set_option linter.unusedVariables false
open Go.SL (FlatTy FlatFs flat_arg flat_slice ArgS allHp)
instance fl22 : FlatTy Tryz.prog 22 [some .u64] := FlatTy.int Tryz.underlying22 (by kernel_rfl)
theorem own : ownKnob Tryz.prog.godebug = none := by kernel_rfl
theorem laidOut : laidOutB Tryz.prog = true := by kernel_rfl
theorem walk (w : World) (x0 : Option Addr) (c0 : Nat) (l0 : List Int) (x1 : Option Addr) (c1 : Nat) (l1 : List Int) (w0 : ∀ o ∈ l0, (fun x : Int => U64 x) o) (y0 : (l0.map (fun x => [Value.int .u64 x])).length ≤ maxLen) (z0 : ArgS (allHp w) 1 x0 (l0.map (fun x => [Value.int .u64 x]))) (q0 : (l0.map (fun x => [Value.int .u64 x])).length ≤ c0) (s0 : (l0.map (fun x => [Value.int .u64 x])).length * 8 ≤ 140737488351232) (w1 : ∀ o ∈ l1, (fun x : Int => U64 x) o) (y1 : (l1.map (fun x => [Value.int .u64 x])).length ≤ maxLen) (z1 : ArgS (allHp w) 1 x1 (l1.map (fun x => [Value.int .u64 x]))) (q1 : (l1.map (fun x => [Value.int .u64 x])).length ≤ c1) (s1 : (l1.map (fun x => [Value.int .u64 x])).length * 8 ≤ 140737488351232) :
    Calls Tryz.prog 4 #[.slice x0 (l0.map (fun x => [Value.int .u64 x])).length c0, .slice x1 (l1.map (fun x => [Value.int .u64 x])).length c1] w fun e w' => e = .returned (.bool true) ∧ Below w.heap.size w w' := by
  rw [List.length_map] at y0 q0 s0 y1 q1 s1
  rw [List.length_map, List.length_map]
  exact (tr_kernelCalls (Go.SL.allHp w) x0 c0 l0 (words_view (Go.SL.own_all w).nd z0 q0) (by omega) w0 x1 c1 l1 (words_view (Go.SL.own_all w).nd z1 q1) w1).callsG
set_option maxRecDepth 100000 in
theorem lifted (os : Os) (started : os.Started) (H : Type) (enc : TypeId × Value → H) :
    ReturnsInHanded {} Tryz.checked os 4 .any (Rows.kernelCallsSpec.pre6 enc Tryz.prog Tryz.f4 Rows.kernelCallsRow.domain false) (Rows.kernelCallsSpec.post enc Tryz.prog Tryz.f4 false true false false) := by
  refine returnsInHanded_of_change_sized (C := Tryz.checked) own started (by kernel_rfl) Tryz.func4
    (ChangeSpec.witness6 (enc := enc) (C := Tryz.checked) false ⟨#[], #[.slice none 0 0, .slice none 0 0], []⟩ 8 (by kernel_rfl) (by kernel_rfl) (by kernel_rfl) (by kernel_rfl)) ?_
  intro W base args ds gs before hval0 hW hcnd hsz _
  have hval : ∀ (j : Nat) t v, Tryz.f4.params[j]? = some t → args[j]? = some v → Value.okWide Tryz.prog W .any base t v := hval0
  have hW' := hW
  obtain ⟨p, q, hA0, hV, rfl, hfz, hnd⟩ := hW
  have hA : DataW.TrodAll enc Tryz.prog W 0 (fun _ => true) true Tryz.f4.params.toList args.toList ds p := hA0
  rw [Tryz.params4] at hA hval
  obtain ⟨v0, vs0, d0, ds0, p0, q0, hargs, rfl, rfl, h0, r0⟩ := trodAll_cons hA
  obtain ⟨v1, vs1, d1, ds1, p1, q1, rfl, rfl, rfl, h1, r1⟩ := trodAll_cons r0
  obtain ⟨rfl, rfl, rfl⟩ := trodAll_nil r1
  obtain rfl : args = #[v0, v1] := by cases args; simp_all
  obtain ⟨rfl, rfl⟩ := trodVars_none hV
  have k0 := h0
  have lt0 : ∀ x ∈ p0, x.block < W.heap.size := by obtain ⟨m, hm⟩ := k0; exact DataW.trod_lt m _ _ _ hm
  obtain ⟨x0, c0, els0, rfl, y0, q0, fe0, z0⟩ := Go.SL.flat_slice2 Tryz.underlying25 (by decide) (okWide_slice Tryz.underlying25 (hval 0 25 v0 rfl rfl)) k0
  have s0 := slice_sized Tryz.underlying25 k0 hsz (j := 0) (by rfl) (by rfl)
  rw [show Tryz.prog.bytesOf 22 = 8 by kernel_rfl, show reachBytes = 140737488351232 by decide] at s0
  obtain ⟨l0, rfl, w0⟩ := as_words fe0
  have k1 := h1
  have lt1 : ∀ x ∈ p1, x.block < W.heap.size := by obtain ⟨m, hm⟩ := k1; exact DataW.trod_lt m _ _ _ hm
  obtain ⟨x1, c1, els1, rfl, y1, q1, fe1, z1⟩ := Go.SL.flat_slice2 Tryz.underlying25 (by decide) (okWide_slice Tryz.underlying25 (hval 1 25 v1 rfl rfl)) k1
  have s1 := slice_sized Tryz.underlying25 k1 hsz (j := 1) (by rfl) (by rfl)
  rw [show Tryz.prog.bytesOf 22 = 8 by kernel_rfl, show reachBytes = 140737488351232 by decide] at s1
  obtain ⟨l1, rfl, w1⟩ := as_words fe1
  clear hA0 hval0
  refine (walk W x0 c0 l0 x1 c1 l1 w0 y0 z0 q0 s0 w1 y1 z1 q1 s1).mono fun e W' ⟨he, bel⟩ => ?_
  subst he
  exact ⟨_, rfl, _, _, _, [], _, [], hW', trodAll_mk1 (shut_bool Tryz.underlying4 _), (trodAll_cons_mk (Below.trod laidOut (by kernel_rfl) (of_decide_eq_true (by kernel_rfl)) k0 bel lt0) (trodAll_cons_mk (Below.trod laidOut (by kernel_rfl) (of_decide_eq_true (by kernel_rfl)) k1 bel lt1) trodAll_mk0)), rfl, bel.frame _, fun h => by cases h⟩
theorem over : Rows.kernelCallsRow.holds Tryz.pinned (OpenSpec.ofChange Rows.kernelCallsSpec) :=
  OpenClaim.holds_of_wide 4 Tryz.f4 rfl rfl rfl rfl rfl rfl rfl ⟨rfl, rfl, rfl, rfl, rfl⟩ rfl rfl rfl rfl rfl (by kernel_rfl) Tryz.func4 (by kernel_rfl)
    (of_decide_eq_true (by kernel_rfl)) (by unfold Func.isWrapper; first | (rw [if_pos (by decide +kernel)]; kernel_rfl) | (rw [if_neg (by decide +kernel)]; exact ⟨rfl, rfl⟩))
    (fun os started H enc _ => lifted os started H enc)
theorem proved : Rows.KernelCallsSaid := over
#print axioms proved
end Go.Proofs.YtipncceiekalfaaGreat.kernelCalls
