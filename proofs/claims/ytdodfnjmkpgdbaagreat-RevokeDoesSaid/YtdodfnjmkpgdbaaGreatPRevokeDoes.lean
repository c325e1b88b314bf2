/- RevokeDoes. Laid together by pack.py out of the texts in wip. -/
import Derived.Test.YtdodfnjmkpgdbaaGreatPRevokeDoes6
set_option linter.unusedVariables false
set_option linter.unusedSimpArgs false
set_option linter.unusedSectionVars false
namespace Go.Proofs.YtdodfnjmkpgdbaaGreat.revokeDoes
open Go.ChangeShapes Go.WideShapes Go.ChangeAt Go.RowKit
set_option linter.unusedVariables false
open Go.SL (FlatTy FlatFs flat_arg flat_slice ArgS allHp)
instance fl3 : FlatTy Tryz.prog 3 [some .i64] := FlatTy.int Tryz.underlying3 (by kernel_rfl)
instance fl31 : FlatTy Tryz.prog 31 [some .i64, some .i64] := FlatTy.struct (kss := [[some .i64], [some .i64]]) Tryz.underlying31 (FlatFs.cons rfl fl3 (FlatFs.cons rfl fl3 FlatFs.nil)) (by kernel_rfl)
instance fl23 : FlatTy Tryz.prog 23 [some .u64] := FlatTy.int Tryz.underlying23 (by kernel_rfl)
instance fl25 : FlatTy Tryz.prog 25 [some .i64, some .i64, some .i64, some .u64, some .u64, some .i64] := FlatTy.struct (kss := [[some .i64], [some .i64], [some .i64], [some .u64], [some .u64], [some .i64]]) Tryz.underlying25 (FlatFs.cons rfl fl3 (FlatFs.cons rfl fl3 (FlatFs.cons rfl fl3 (FlatFs.cons rfl fl23 (FlatFs.cons rfl fl23 (FlatFs.cons rfl fl3 FlatFs.nil)))))) (by kernel_rfl)
instance fl33 : FlatTy Tryz.prog 33 [some .i64, some .i64, some .i64, some .i64, some .i64, some .i64, some .i64, some .i64, some .i64, some .i64, some .u64, some .u64, some .i64, some .i64, some .i64, some .u64, some .u64, some .i64] := FlatTy.struct (kss := [[some .i64], [some .i64, some .i64], [some .i64, some .i64], [some .i64, some .i64], [some .i64, some .i64, some .i64, some .u64, some .u64, some .i64], [some .i64], [some .i64], [some .u64], [some .u64], [some .i64]]) Tryz.underlying33 (FlatFs.cons rfl fl3 (FlatFs.cons rfl fl31 (FlatFs.cons rfl fl31 (FlatFs.cons rfl fl31 (FlatFs.cons rfl fl25 (FlatFs.cons rfl fl3 (FlatFs.cons rfl fl3 (FlatFs.cons rfl fl23 (FlatFs.cons rfl fl23 (FlatFs.cons rfl fl3 FlatFs.nil)))))))))) (by kernel_rfl)
instance fl66 : FlatTy Tryz.prog 66 [some .i64, some .i64, some .i64, some .i64, some .i64, some .i64, some .i64, some .i64, some .i64, some .i64, some .u64, some .u64, some .i64, some .i64, some .i64, some .u64, some .u64, some .i64, some .i64] := FlatTy.struct (kss := [[some .i64, some .i64, some .i64, some .i64, some .i64, some .i64, some .i64, some .i64, some .i64, some .i64, some .u64, some .u64, some .i64, some .i64, some .i64, some .u64, some .u64, some .i64], [some .i64]]) Tryz.underlying66 (FlatFs.cons rfl fl33 (FlatFs.cons rfl fl3 FlatFs.nil)) (by kernel_rfl)
theorem own : ownKnob Tryz.prog.godebug = none := by kernel_rfl
theorem laidOut : laidOutB Tryz.prog = true := by kernel_rfl
theorem walk (w : World) (x0 : Option Addr) (c0 : Nat) (l0 : List OpR) (w0 : ∀ o ∈ l0, (fun o : OpR => OpC.Rg o.o ∧ i64R o.steps) o) (y0 : (l0.map OpR.cells).length ≤ maxLen) (z0 : ArgS (allHp w) 19 x0 (l0.map OpR.cells)) :
    Calls Tryz.prog 4 #[.slice x0 (l0.map OpR.cells).length c0] w fun e w' => e = .returned (.bool true) ∧ Below w.heap.size w w' := by
  rw [List.length_map] at y0 ⊢
  exact (tr_revokeDoes (Go.SL.allHp w) x0 c0 l0 z0 w0 y0).callsG
set_option maxRecDepth 100000 in
theorem lifted (os : Os) (started : os.Started) (H : Type) (enc : TypeId × Value → H) :
    ReturnsInHanded {} Tryz.checked os 4 .any (Rows.revokeDoesSpec.pre6 enc Tryz.prog Tryz.f4 Rows.revokeDoesRow.domain false) (Rows.revokeDoesSpec.post enc Tryz.prog Tryz.f4 false true false false) := by
  refine returnsInHanded_of_change (C := Tryz.checked) own started (by kernel_rfl) Tryz.func4
    (ChangeSpec.witness6 (enc := enc) (C := Tryz.checked) false ⟨#[], #[.slice none 0 0], []⟩ 8 (by kernel_rfl) (by kernel_rfl) (by kernel_rfl) (by kernel_rfl)) ?_
  intro W base args ds gs before hval0 hW hcnd _
  have hval : ∀ (j : Nat) t v, Tryz.f4.params[j]? = some t → args[j]? = some v → Value.okWide Tryz.prog W .any base t v := hval0
  have hW' := hW
  obtain ⟨p, q, hA0, hV, rfl, hfz, hnd⟩ := hW
  have hA : DataW.TrodAll enc Tryz.prog W 0 (fun _ => true) true Tryz.f4.params.toList args.toList ds p := hA0
  rw [Tryz.params4] at hA hval
  obtain ⟨v0, vs0, d0, ds0, p0, q0, hargs, rfl, rfl, h0, r0⟩ := trodAll_cons hA
  obtain ⟨rfl, rfl, rfl⟩ := trodAll_nil r0
  obtain rfl : args = #[v0] := by cases args; simp_all
  obtain ⟨rfl, rfl⟩ := trodVars_none hV
  have k0 := h0
  have lt0 : ∀ x ∈ p0, x.block < W.heap.size := by obtain ⟨m, hm⟩ := k0; exact DataW.trod_lt m _ _ _ hm
  obtain ⟨x0, c0, els0, rfl, y0, fe0, z0⟩ := flat_slice Tryz.underlying64 (by decide) (okWide_slice Tryz.underlying64 (hval 0 64 v0 rfl rfl)) k0
  obtain ⟨l0, rfl, w0⟩ := as_opRs fe0
  clear hA0 hval0
  refine (walk W x0 c0 l0 w0 y0 z0).mono fun e W' ⟨he, bel⟩ => ?_
  subst he
  exact ⟨_, rfl, _, _, _, [], _, [], hW', trodAll_mk1 (shut_bool Tryz.underlying4 _), (trodAll_cons_mk (Below.trod laidOut (by kernel_rfl) (of_decide_eq_true (by kernel_rfl)) k0 bel lt0) trodAll_mk0), rfl, bel.frame _, fun h => by cases h⟩
theorem over : Rows.revokeDoesRow.holds Tryz.pinned (OpenSpec.ofChange Rows.revokeDoesSpec) :=
  OpenClaim.holds_of_wide 4 Tryz.f4 rfl rfl rfl rfl rfl rfl rfl ⟨rfl, rfl, rfl, rfl, rfl⟩ rfl rfl rfl rfl rfl (by kernel_rfl) Tryz.func4 (by kernel_rfl)
    (of_decide_eq_true (by kernel_rfl)) (by unfold Func.isWrapper; first | (rw [if_pos (by decide +kernel)]; kernel_rfl) | (rw [if_neg (by decide +kernel)]; exact ⟨rfl, rfl⟩))
    (fun os started H enc _ => lifted os started H enc)
theorem proved : Rows.RevokeDoesSaid := over
#print axioms proved
end Go.Proofs.YtdodfnjmkpgdbaaGreat.revokeDoes
