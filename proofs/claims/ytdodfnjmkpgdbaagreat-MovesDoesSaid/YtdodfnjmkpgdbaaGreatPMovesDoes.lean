/- MovesDoes. Laid together by pack.py out of the texts in wip. -/
import Derived.Test.YtdodfnjmkpgdbaaGreatPMovesDoes6
set_option linter.unusedVariables false
set_option linter.unusedSimpArgs false
set_option linter.unusedSectionVars false
namespace Go.Proofs.YtdodfnjmkpgdbaaGreat.movesDoes
open Go.ChangeShapes Go.WideShapes Go.ChangeAt Go.RowKit
set_option linter.unusedVariables false
open Go.SL (FlatTy FlatFs flat_arg flat_slice ArgS allHp)
instance fl3 : FlatTy Tryz.prog 3 [some .i64] := FlatTy.int Tryz.underlying3 (by kernel_rfl)
instance fl31 : FlatTy Tryz.prog 31 [some .i64, some .i64] := FlatTy.struct (kss := [[some .i64], [some .i64]]) Tryz.underlying31 (FlatFs.cons rfl fl3 (FlatFs.cons rfl fl3 FlatFs.nil)) (by kernel_rfl)
instance fl23 : FlatTy Tryz.prog 23 [some .u64] := FlatTy.int Tryz.underlying23 (by kernel_rfl)
instance fl25 : FlatTy Tryz.prog 25 [some .i64, some .i64, some .i64, some .u64, some .u64, some .i64] := FlatTy.struct (kss := [[some .i64], [some .i64], [some .i64], [some .u64], [some .u64], [some .i64]]) Tryz.underlying25 (FlatFs.cons rfl fl3 (FlatFs.cons rfl fl3 (FlatFs.cons rfl fl3 (FlatFs.cons rfl fl23 (FlatFs.cons rfl fl23 (FlatFs.cons rfl fl3 FlatFs.nil)))))) (by kernel_rfl)
instance fl33 : FlatTy Tryz.prog 33 [some .i64, some .i64, some .i64, some .i64, some .i64, some .i64, some .i64, some .i64, some .i64, some .i64, some .u64, some .u64, some .i64, some .i64, some .i64, some .u64, some .u64, some .i64] := FlatTy.struct (kss := [[some .i64], [some .i64, some .i64], [some .i64, some .i64], [some .i64, some .i64], [some .i64, some .i64, some .i64, some .u64, some .u64, some .i64], [some .i64], [some .i64], [some .u64], [some .u64], [some .i64]]) Tryz.underlying33 (FlatFs.cons rfl fl3 (FlatFs.cons rfl fl31 (FlatFs.cons rfl fl31 (FlatFs.cons rfl fl31 (FlatFs.cons rfl fl25 (FlatFs.cons rfl fl3 (FlatFs.cons rfl fl3 (FlatFs.cons rfl fl23 (FlatFs.cons rfl fl23 (FlatFs.cons rfl fl3 FlatFs.nil)))))))))) (by kernel_rfl)
theorem own : ownKnob Tryz.prog.godebug = none := by kernel_rfl
theorem laidOut : laidOutB Tryz.prog = true := by kernel_rfl
theorem walk (w : World) (x0 : Option Addr) (c0 : Nat) (l0 : List OpC) (a1 : CapM) (a2 : Int) (a3 : Int) (w0 : ∀ o ∈ l0, OpC.Rg o) (y0 : (l0.map OpC.cells).length ≤ maxLen) (z0 : ArgS (allHp w) 18 x0 (l0.map OpC.cells)) (w1 : (fun _ => True) a1) (w2 : (Lit.int .u64 a2).wf = true) (w3 : (Lit.int .i64 a3).wf = true) :
    Calls Tryz.prog 3 #[.slice x0 (l0.map OpC.cells).length c0, CapM.v a1, .int .u64 a2, .int .i64 a3] w fun e w' => e = .returned (.bool true) ∧ Below w.heap.size w w' := by
  obtain ⟨q, rfl, hq⟩ := Go.SL.lit_u64 w2
  rw [List.length_map] at y0 ⊢
  exact (tr_movesDoes (Go.SL.allHp w) x0 c0 l0 z0 w0 y0 a1 q hq a3).callsG
set_option maxRecDepth 100000 in
theorem lifted (os : Os) (started : os.Started) (H : Type) (enc : TypeId × Value → H) :
    ReturnsInHanded {} Tryz.checked os 3 .any (Rows.movesDoesSpec.pre6 enc Tryz.prog Tryz.f3 Rows.movesDoesRow.domain false) (Rows.movesDoesSpec.post enc Tryz.prog Tryz.f3 false true false false) := by
  refine returnsInHanded_of_change (C := Tryz.checked) own started (by kernel_rfl) Tryz.func3
    (ChangeSpec.witness6 (enc := enc) (C := Tryz.checked) false ⟨#[], #[.slice none 0 0, .agg #[.int .i64 0, .int .i64 0, .int .i64 0, .int .u64 0, .int .u64 0, .int .i64 0], .int .u64 0, .int .i64 0], []⟩ 8 (by kernel_rfl) (by kernel_rfl) (by kernel_rfl) (by kernel_rfl)) ?_
  intro W base args ds gs before hval0 hW hcnd _
  have hval : ∀ (j : Nat) t v, Tryz.f3.params[j]? = some t → args[j]? = some v → Value.okWide Tryz.prog W .any base t v := hval0
  have hW' := hW
  obtain ⟨p, q, hA0, hV, rfl, hfz, hnd⟩ := hW
  have hA : DataW.TrodAll enc Tryz.prog W 0 (fun _ => true) true Tryz.f3.params.toList args.toList ds p := hA0
  rw [Tryz.params3] at hA hval
  obtain ⟨v0, vs0, d0, ds0, p0, q0, hargs, rfl, rfl, h0, r0⟩ := trodAll_cons hA
  obtain ⟨v1, vs1, d1, ds1, p1, q1, rfl, rfl, rfl, h1, r1⟩ := trodAll_cons r0
  obtain ⟨v2, vs2, d2, ds2, p2, q2, rfl, rfl, rfl, h2, r2⟩ := trodAll_cons r1
  obtain ⟨v3, vs3, d3, ds3, p3, q3, rfl, rfl, rfl, h3, r3⟩ := trodAll_cons r2
  obtain ⟨rfl, rfl, rfl⟩ := trodAll_nil r3
  obtain rfl : args = #[v0, v1, v2, v3] := by cases args; simp_all
  obtain ⟨rfl, rfl⟩ := trodVars_none hV
  have k0 := h0
  have lt0 : ∀ x ∈ p0, x.block < W.heap.size := by obtain ⟨m, hm⟩ := k0; exact DataW.trod_lt m _ _ _ hm
  obtain ⟨x0, c0, els0, rfl, y0, fe0, z0⟩ := flat_slice Tryz.underlying22 (by decide) (okWide_slice Tryz.underlying22 (hval 0 22 v0 rfl rfl)) k0
  obtain ⟨l0, rfl, w0⟩ := as_opcsR fe0
  have k1 := h1
  have lt1 : ∀ x ∈ p1, x.block < W.heap.size := by obtain ⟨m, hm⟩ := k1; exact DataW.trod_lt m _ _ _ hm
  obtain ⟨cs1, rfl, _⟩ := okWide_struct Tryz.underlying25 (hval 1 25 v1 rfl rfl)
  obtain ⟨a1, rfl, w1⟩ := as_cap (flat_arg (ks := [some .i64, some .i64, some .i64, some .u64, some .u64, some .i64]) k1)
  obtain ⟨a2, rfl, rfl, rfl, w2⟩ := open_int Tryz.underlying23 (hval 2 23 v2 rfl rfl) h2
  obtain ⟨a3, rfl, rfl, rfl, w3⟩ := open_int Tryz.underlying3 (hval 3 3 v3 rfl rfl) h3
  clear hA0 hval0
  refine (walk W x0 c0 l0 a1 a2 a3 w0 y0 z0 w1 w2 w3).mono fun e W' ⟨he, bel⟩ => ?_
  subst he
  exact ⟨_, rfl, _, _, _, [], _, [], hW', trodAll_mk1 (shut_bool Tryz.underlying4 _), (trodAll_cons_mk (Below.trod laidOut (by kernel_rfl) (of_decide_eq_true (by kernel_rfl)) k0 bel lt0) (trodAll_cons_mk (Below.trod laidOut (by kernel_rfl) (of_decide_eq_true (by kernel_rfl)) k1 bel lt1) (trodAll_cons_mk (shut_int Tryz.underlying23 w2) (trodAll_cons_mk (shut_int Tryz.underlying3 w3) trodAll_mk0)))), rfl, bel.frame _, fun h => by cases h⟩
theorem over : Rows.movesDoesRow.holds Tryz.pinned (OpenSpec.ofChange Rows.movesDoesSpec) :=
  OpenClaim.holds_of_wide 3 Tryz.f3 rfl rfl rfl rfl rfl rfl rfl ⟨rfl, rfl, rfl, rfl, rfl⟩ rfl rfl rfl rfl rfl (by kernel_rfl) Tryz.func3 (by kernel_rfl)
    (of_decide_eq_true (by kernel_rfl)) (by unfold Func.isWrapper; first | (rw [if_pos (by decide +kernel)]; kernel_rfl) | (rw [if_neg (by decide +kernel)]; exact ⟨rfl, rfl⟩))
    (fun os started H enc _ => lifted os started H enc)
theorem proved : Rows.MovesDoesSaid := over
#print axioms proved
end Go.Proofs.YtdodfnjmkpgdbaaGreat.movesDoes
