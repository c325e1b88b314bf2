/- The row of MovesTakes: the walk met with the given statement. No condition. -/
import Derived.Test.YtdodfnjmkpgdbaaRows
import Derived.WalkKit
import Derived.ProofKit
import Derived.OpenShut
import Derived.ChangeOld
import Derived.Below
import Derived.Test.YtdodfnjmkpgdbaaFL
import Derived.Test.YtdodfnjmkpgdbaaW10f
namespace Go.Proofs.Ytdodfnjmkpgdbaa.movesTakes
open Go.ChangeShapes Go.WideShapes Go.ChangeAt Go.RowKit
set_option linter.unusedVariables false
open Go.SL (FlatTy FlatFs flat_arg flat_slice ArgS allHp)

instance fl3 : FlatTy Try.prog 3 [some .i64] := FlatTy.int Try.underlying3 (by kernel_rfl)
instance fl38 : FlatTy Try.prog 38 [some .i64, some .i64] := FlatTy.struct (kss := [[some .i64], [some .i64]]) Try.underlying38 (FlatFs.cons rfl fl3 (FlatFs.cons rfl fl3 FlatFs.nil)) (by kernel_rfl)
instance fl22 : FlatTy Try.prog 22 [some .u64] := FlatTy.int Try.underlying22 (by kernel_rfl)
instance fl24 : FlatTy Try.prog 24 [some .i64, some .i64, some .i64, some .u64, some .u64, some .i64] := FlatTy.struct (kss := [[some .i64], [some .i64], [some .i64], [some .u64], [some .u64], [some .i64]]) Try.underlying24 (FlatFs.cons rfl fl3 (FlatFs.cons rfl fl3 (FlatFs.cons rfl fl3 (FlatFs.cons rfl fl22 (FlatFs.cons rfl fl22 (FlatFs.cons rfl fl3 FlatFs.nil)))))) (by kernel_rfl)
instance fl51 : FlatTy Try.prog 51 [some .i64, some .i64, some .i64, some .i64, some .i64, some .i64, some .i64, some .i64, some .i64, some .i64, some .u64, some .u64, some .i64, some .i64, some .i64, some .u64, some .u64, some .i64] := FlatTy.struct (kss := [[some .i64], [some .i64, some .i64], [some .i64, some .i64], [some .i64, some .i64], [some .i64, some .i64, some .i64, some .u64, some .u64, some .i64], [some .i64], [some .i64], [some .u64], [some .u64], [some .i64]]) Try.underlying51 (FlatFs.cons rfl fl3 (FlatFs.cons rfl fl38 (FlatFs.cons rfl fl38 (FlatFs.cons rfl fl38 (FlatFs.cons rfl fl24 (FlatFs.cons rfl fl3 (FlatFs.cons rfl fl3 (FlatFs.cons rfl fl22 (FlatFs.cons rfl fl22 (FlatFs.cons rfl fl3 FlatFs.nil)))))))))) (by kernel_rfl)

theorem own : ownKnob Try.prog.godebug = none := by kernel_rfl
theorem laidOut : laidOutB Try.prog = true := by kernel_rfl

theorem walk (w : World) (x0 : Option Addr) (c0 : Nat) (l0 : List OpC) (x1 : Option Addr) (c1 : Nat) (l1 : List Int) (w0 : ∀ o ∈ l0, (fun _ => True) o) (y0 : (l0.map OpC.cells).length ≤ maxLen) (z0 : ArgS (allHp w) 18 x0 (l0.map OpC.cells)) (w1 : ∀ o ∈ l1, (fun _ => True) o) (y1 : (l1.map (fun x => [Value.int .i64 x])).length ≤ maxLen) (z1 : ArgS (allHp w) 1 x1 (l1.map (fun x => [Value.int .i64 x]))) :
    Calls Try.prog 6 #[.slice x0 (l0.map OpC.cells).length c0, .slice x1 (l1.map (fun x => [Value.int .i64 x])).length c1] w fun e w' => e = .returned (.bool true) ∧ Below w.heap.size w w' := by
  rw [List.length_map] at y0 y1 ⊢
  rw [List.length_map]
  exact (tr_movesTakes (Go.SL.allHp w) x0 c0 l0 z0 y0 x1 c1 l1 z1 y1).callsG

set_option maxRecDepth 100000 in
theorem lifted (os : Os) (started : os.Started) (H : Type) (enc : TypeId × Value → H) :
    ReturnsInHanded {} Try.checked os 6 .any (Rows.movesTakesSpec.pre6 enc Try.prog Try.f6 Rows.movesTakesRow.domain false) (Rows.movesTakesSpec.post enc Try.prog Try.f6 false true false false) := by
  refine returnsInHanded_of_change (C := Try.checked) own started (by kernel_rfl) Try.func6
    (ChangeSpec.witness6 (enc := enc) (C := Try.checked) false ⟨#[], #[.slice none 0 0, .slice none 0 0], []⟩ 8 (by kernel_rfl) (by kernel_rfl) (by kernel_rfl) (by kernel_rfl)) ?_
  intro W base args ds gs before hval0 hW hcnd _
  have hval : ∀ (j : Nat) t v, Try.f6.params[j]? = some t → args[j]? = some v → Value.okWide Try.prog W .any base t v := hval0
  have hW' := hW
  obtain ⟨p, q, hA0, hV, rfl, hfz, hnd⟩ := hW
  have hA : DataW.TrodAll enc Try.prog W 0 (fun _ => true) true Try.f6.params.toList args.toList ds p := hA0
  rw [Try.params6] at hA hval
  obtain ⟨v0, vs0, d0, ds0, p0, q0, hargs, rfl, rfl, h0, r0⟩ := trodAll_cons hA
  obtain ⟨v1, vs1, d1, ds1, p1, q1, rfl, rfl, rfl, h1, r1⟩ := trodAll_cons r0
  obtain ⟨rfl, rfl, rfl⟩ := trodAll_nil r1
  obtain rfl : args = #[v0, v1] := by cases args; simp_all
  obtain ⟨rfl, rfl⟩ := trodVars_none hV
  have k0 := h0
  have lt0 : ∀ x ∈ p0, x.block < W.heap.size := by obtain ⟨m, hm⟩ := k0; exact DataW.trod_lt m _ _ _ hm
  obtain ⟨x0, c0, els0, rfl, y0, fe0, z0⟩ := flat_slice Try.underlying49 (by decide) (okWide_slice Try.underlying49 (hval 0 49 v0 rfl rfl)) k0
  obtain ⟨l0, rfl, w0⟩ := as_opcs fe0
  have k1 := h1
  have lt1 : ∀ x ∈ p1, x.block < W.heap.size := by obtain ⟨m, hm⟩ := k1; exact DataW.trod_lt m _ _ _ hm
  obtain ⟨x1, c1, els1, rfl, y1, fe1, z1⟩ := flat_slice Try.underlying58 (by decide) (okWide_slice Try.underlying58 (hval 1 58 v1 rfl rfl)) k1
  obtain ⟨l1, rfl, w1⟩ := as_ints fe1
  clear hA0 hval0
  refine (walk W x0 c0 l0 x1 c1 l1 w0 y0 z0 w1 y1 z1).mono fun e W' ⟨he, bel⟩ => ?_
  subst he
  exact ⟨_, rfl, _, _, _, [], _, [], hW', trodAll_mk1 (shut_bool Try.underlying4 _), (trodAll_cons_mk (Below.trod laidOut (by kernel_rfl) (of_decide_eq_true (by kernel_rfl)) k0 bel lt0) (trodAll_cons_mk (Below.trod laidOut (by kernel_rfl) (of_decide_eq_true (by kernel_rfl)) k1 bel lt1) trodAll_mk0)), rfl, bel.frame _, fun h => by cases h⟩

theorem over : Rows.movesTakesRow.holds Try.pinned (OpenSpec.ofChange Rows.movesTakesSpec) :=
  OpenClaim.holds_of_wide 6 Try.f6 rfl rfl rfl rfl rfl rfl rfl ⟨rfl, rfl, rfl, rfl, rfl⟩ rfl rfl rfl rfl rfl (by kernel_rfl) Try.func6 (by kernel_rfl)
    (of_decide_eq_true (by kernel_rfl)) (by unfold Func.isWrapper; first | (rw [if_pos (by decide +kernel)]; kernel_rfl) | (rw [if_neg (by decide +kernel)]; exact ⟨rfl, rfl⟩))
    (fun os started H enc _ => lifted os started H enc)

theorem proved : Rows.MovesTakesSaid := over
#print axioms proved
end Go.Proofs.Ytdodfnjmkpgdbaa.movesTakes
