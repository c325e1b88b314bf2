/- The row of MovesStep: the walk met with the given statement. No condition. -/
import Derived.Test.YtdodfnjmkpgdbaaRows
import Derived.WalkKit
import Derived.ProofKit
import Derived.OpenShut
import Derived.ChangeOld
import Derived.Below
import Derived.Test.YtdodfnjmkpgdbaaFL
import Derived.Test.YtdodfnjmkpgdbaaW10e
namespace Go.Proofs.Ytdodfnjmkpgdbaa.movesStep
open Go.ChangeShapes Go.WideShapes Go.ChangeAt Go.RowKit
set_option linter.unusedVariables false
open Go.SL (FlatTy FlatFs flat_arg flat_slice ArgS allHp)

instance fl3 : FlatTy Try.prog 3 [some .i64] := FlatTy.int Try.underlying3 (by kernel_rfl)
instance fl38 : FlatTy Try.prog 38 [some .i64, some .i64] := FlatTy.struct (kss := [[some .i64], [some .i64]]) Try.underlying38 (FlatFs.cons rfl fl3 (FlatFs.cons rfl fl3 FlatFs.nil)) (by kernel_rfl)
instance fl22 : FlatTy Try.prog 22 [some .u64] := FlatTy.int Try.underlying22 (by kernel_rfl)
instance fl24 : FlatTy Try.prog 24 [some .i64, some .i64, some .i64, some .u64, some .u64, some .i64] := FlatTy.struct (kss := [[some .i64], [some .i64], [some .i64], [some .u64], [some .u64], [some .i64]]) Try.underlying24 (FlatFs.cons rfl fl3 (FlatFs.cons rfl fl3 (FlatFs.cons rfl fl3 (FlatFs.cons rfl fl22 (FlatFs.cons rfl fl22 (FlatFs.cons rfl fl3 FlatFs.nil)))))) (by kernel_rfl)
instance fl51 : FlatTy Try.prog 51 [some .i64, some .i64, some .i64, some .i64, some .i64, some .i64, some .i64, some .i64, some .i64, some .i64, some .u64, some .u64, some .i64, some .i64, some .i64, some .u64, some .u64, some .i64] := FlatTy.struct (kss := [[some .i64], [some .i64, some .i64], [some .i64, some .i64], [some .i64, some .i64], [some .i64, some .i64, some .i64, some .u64, some .u64, some .i64], [some .i64], [some .i64], [some .u64], [some .u64], [some .i64]]) Try.underlying51 (FlatFs.cons rfl fl3 (FlatFs.cons rfl fl38 (FlatFs.cons rfl fl38 (FlatFs.cons rfl fl38 (FlatFs.cons rfl fl24 (FlatFs.cons rfl fl3 (FlatFs.cons rfl fl3 (FlatFs.cons rfl fl22 (FlatFs.cons rfl fl22 (FlatFs.cons rfl fl3 FlatFs.nil)))))))))) (by kernel_rfl)

theorem own : ownKnob Try.prog.godebug = none := by kernel_rfl
theorem laidOut : laidOutB Try.prog = true := by kernel_rfl

theorem walk (w : World) (x0 : Option Addr) (c0 : Nat) (l0 : List OpC) (w0 : ∀ o ∈ l0, OpC.Rg o) (y0 : (l0.map OpC.cells).length ≤ maxLen) (z0 : ArgS (allHp w) 18 x0 (l0.map OpC.cells)) :
    Calls Try.prog 5 #[.slice x0 (l0.map OpC.cells).length c0] w fun e w' => e = .returned (.bool true) ∧ Below w.heap.size w w' := by
  rw [List.length_map] at y0 ⊢
  exact (tr_movesStep (Go.SL.allHp w) x0 c0 l0 z0 w0 y0).callsG

set_option maxRecDepth 100000 in
theorem lifted (os : Os) (started : os.Started) (H : Type) (enc : TypeId × Value → H) :
    ReturnsInHanded {} Try.checked os 5 .any (Rows.movesStepSpec.pre6 enc Try.prog Try.f5 Rows.movesStepRow.domain false) (Rows.movesStepSpec.post enc Try.prog Try.f5 false true false false) := by
  refine returnsInHanded_of_change (C := Try.checked) own started (by kernel_rfl) Try.func5
    (ChangeSpec.witness6 (enc := enc) (C := Try.checked) false ⟨#[], #[.slice none 0 0], []⟩ 8 (by kernel_rfl) (by kernel_rfl) (by kernel_rfl) (by kernel_rfl)) ?_
  intro W base args ds gs before hval0 hW hcnd _
  have hval : ∀ (j : Nat) t v, Try.f5.params[j]? = some t → args[j]? = some v → Value.okWide Try.prog W .any base t v := hval0
  have hW' := hW
  obtain ⟨p, q, hA0, hV, rfl, hfz, hnd⟩ := hW
  have hA : DataW.TrodAll enc Try.prog W 0 (fun _ => true) true Try.f5.params.toList args.toList ds p := hA0
  rw [Try.params5] at hA hval
  obtain ⟨v0, vs0, d0, ds0, p0, q0, hargs, rfl, rfl, h0, r0⟩ := trodAll_cons hA
  obtain ⟨rfl, rfl, rfl⟩ := trodAll_nil r0
  obtain rfl : args = #[v0] := by cases args; simp_all
  obtain ⟨rfl, rfl⟩ := trodVars_none hV
  have k0 := h0
  have lt0 : ∀ x ∈ p0, x.block < W.heap.size := by obtain ⟨m, hm⟩ := k0; exact DataW.trod_lt m _ _ _ hm
  obtain ⟨x0, c0, els0, rfl, y0, fe0, z0⟩ := flat_slice Try.underlying49 (by decide) (okWide_slice Try.underlying49 (hval 0 49 v0 rfl rfl)) k0
  obtain ⟨l0, rfl, w0⟩ := as_opcsR fe0
  clear hA0 hval0
  refine (walk W x0 c0 l0 w0 y0 z0).mono fun e W' ⟨he, bel⟩ => ?_
  subst he
  exact ⟨_, rfl, _, _, _, [], _, [], hW', trodAll_mk1 (shut_bool Try.underlying4 _), (trodAll_cons_mk (Below.trod laidOut (by kernel_rfl) (of_decide_eq_true (by kernel_rfl)) k0 bel lt0) trodAll_mk0), rfl, bel.frame _, fun h => by cases h⟩

theorem over : Rows.movesStepRow.holds Try.pinned (OpenSpec.ofChange Rows.movesStepSpec) :=
  OpenClaim.holds_of_wide 5 Try.f5 rfl rfl rfl rfl rfl rfl rfl ⟨rfl, rfl, rfl, rfl, rfl⟩ rfl rfl rfl rfl rfl (by kernel_rfl) Try.func5 (by kernel_rfl)
    (of_decide_eq_true (by kernel_rfl)) (by unfold Func.isWrapper; first | (rw [if_pos (by decide +kernel)]; kernel_rfl) | (rw [if_neg (by decide +kernel)]; exact ⟨rfl, rfl⟩))
    (fun os started H enc _ => lifted os started H enc)

theorem proved : Rows.MovesStepSaid := over
#print axioms proved
end Go.Proofs.Ytdodfnjmkpgdbaa.movesStep
