/- The row of GuardFinds: the walk met with the given statement. No condition. -/
import Derived.Test.YtpoamckpdpkpoaaRows
import Derived.WalkKit
import Derived.ProofKit
import Derived.OpenShut
import Derived.ChangeOld
import Derived.Below
import Derived.Test.YtpoamckpdpkpoaaFL
import Derived.Test.YtpoamckpdpkpoaaW08d
import Derived.Test.YtpoamckpdpkpoaaM07q
namespace Go.Proofs.Ytpoamckpdpkpoaa.guardFinds
open Go.ChangeShapes Go.WideShapes Go.ChangeAt Go.RowKit
set_option linter.unusedVariables false
open Go.SL (FlatTy FlatFs flat_arg flat_slice ArgS allHp)

instance fl3 : FlatTy Try.prog 3 [some .i64] := FlatTy.int Try.underlying3 (by kernel_rfl)
instance fl31 : FlatTy Try.prog 31 [some .i64, some .i64] := FlatTy.struct (kss := [[some .i64], [some .i64]]) Try.underlying31 (FlatFs.cons rfl fl3 (FlatFs.cons rfl fl3 FlatFs.nil)) (by kernel_rfl)
instance fl22 : FlatTy Try.prog 22 [some .u64] := FlatTy.int Try.underlying22 (by kernel_rfl)
instance fl29 : FlatTy Try.prog 29 [some .i64, some .i64, some .i64, some .u64, some .u64, some .i64] := FlatTy.struct (kss := [[some .i64], [some .i64], [some .i64], [some .u64], [some .u64], [some .i64]]) Try.underlying29 (FlatFs.cons rfl fl3 (FlatFs.cons rfl fl3 (FlatFs.cons rfl fl3 (FlatFs.cons rfl fl22 (FlatFs.cons rfl fl22 (FlatFs.cons rfl fl3 FlatFs.nil)))))) (by kernel_rfl)
instance fl120 : FlatTy Try.prog 120 [some .i64, some .i64, some .i64, some .i64, some .i64, some .u64, some .u64, some .i64] := FlatTy.struct (kss := [[some .i64, some .i64], [some .i64, some .i64, some .i64, some .u64, some .u64, some .i64]]) Try.underlying120 (FlatFs.cons rfl fl31 (FlatFs.cons rfl fl29 FlatFs.nil)) (by kernel_rfl)

theorem own : ownKnob Try.prog.godebug = none := by kernel_rfl
theorem laidOut : laidOutB Try.prog = true := by kernel_rfl

theorem walk (w : World) (x0 : Option Addr) (c0 : Nat) (l0 : List Int) (x1 : Option Addr) (c1 : Nat) (l1 : List PutM) (a2 : CapM) (a3 : Int) (a4 : Int) (w0 : ∀ o ∈ l0, (fun _ => True) o) (y0 : (l0.map (fun x => [Value.int .i64 x])).length ≤ maxLen) (z0 : ArgS (allHp w) 1 x0 (l0.map (fun x => [Value.int .i64 x]))) (w1 : ∀ o ∈ l1, (fun o : PutM => o.c.Rg) o) (y1 : (l1.map PutM.cells).length ≤ maxLen) (z1 : ArgS (allHp w) 8 x1 (l1.map PutM.cells)) (w2 : (fun _ => True) a2) (w3 : (Lit.int .u64 a3).wf = true) (w4 : (Lit.int .i64 a4).wf = true) :
    Calls Try.prog 13 #[.slice x0 (l0.map (fun x => [Value.int .i64 x])).length c0, .slice x1 (l1.map PutM.cells).length c1, CapM.v a2, .int .u64 a3, .int .i64 a4] w fun e w' => e = .returned (.bool true) ∧ Below w.heap.size w w' := by
  obtain ⟨p, rfl, hp⟩ := Go.SL.lit_u64 w3
  rw [List.length_map] at y0 y1 ⊢
  rw [List.length_map]
  exact (tr_guardFinds (Go.SL.allHp w) x0 c0 l0 z0 y0 x1 c1 l1 z1 w1 y1 a2 p hp a4).callsG

set_option maxRecDepth 100000 in
theorem lifted (os : Os) (started : os.Started) (H : Type) (enc : TypeId × Value → H) :
    ReturnsInHanded {} Try.checked os 13 .any (Rows.guardFindsSpec.pre6 enc Try.prog Try.f13 Rows.guardFindsRow.domain false) (Rows.guardFindsSpec.post enc Try.prog Try.f13 false true false false) := by
  refine returnsInHanded_of_change (C := Try.checked) own started (by kernel_rfl) Try.func13
    (ChangeSpec.witness6 (enc := enc) (C := Try.checked) false ⟨#[], #[.slice none 0 0, .slice none 0 0, .agg #[.int .i64 0, .int .i64 0, .int .i64 0, .int .u64 0, .int .u64 0, .int .i64 0], .int .u64 0, .int .i64 0], []⟩ 8 (by kernel_rfl) (by kernel_rfl) (by kernel_rfl) (by kernel_rfl)) ?_
  intro W base args ds gs before hval0 hW hcnd _
  have hval : ∀ (j : Nat) t v, Try.f13.params[j]? = some t → args[j]? = some v → Value.okWide Try.prog W .any base t v := hval0
  have hW' := hW
  obtain ⟨p, q, hA0, hV, rfl, hfz, hnd⟩ := hW
  have hA : DataW.TrodAll enc Try.prog W 0 (fun _ => true) true Try.f13.params.toList args.toList ds p := hA0
  rw [Try.params13] at hA hval
  obtain ⟨v0, vs0, d0, ds0, p0, q0, hargs, rfl, rfl, h0, r0⟩ := trodAll_cons hA
  obtain ⟨v1, vs1, d1, ds1, p1, q1, rfl, rfl, rfl, h1, r1⟩ := trodAll_cons r0
  obtain ⟨v2, vs2, d2, ds2, p2, q2, rfl, rfl, rfl, h2, r2⟩ := trodAll_cons r1
  obtain ⟨v3, vs3, d3, ds3, p3, q3, rfl, rfl, rfl, h3, r3⟩ := trodAll_cons r2
  obtain ⟨v4, vs4, d4, ds4, p4, q4, rfl, rfl, rfl, h4, r4⟩ := trodAll_cons r3
  obtain ⟨rfl, rfl, rfl⟩ := trodAll_nil r4
  obtain rfl : args = #[v0, v1, v2, v3, v4] := by cases args; simp_all
  obtain ⟨rfl, rfl⟩ := trodVars_none hV
  have k0 := h0
  have lt0 : ∀ x ∈ p0, x.block < W.heap.size := by obtain ⟨m, hm⟩ := k0; exact DataW.trod_lt m _ _ _ hm
  obtain ⟨x0, c0, els0, rfl, y0, fe0, z0⟩ := flat_slice Try.underlying82 (by decide) (okWide_slice Try.underlying82 (hval 0 82 v0 rfl rfl)) k0
  obtain ⟨l0, rfl, w0⟩ := as_intz fe0
  have k1 := h1
  have lt1 : ∀ x ∈ p1, x.block < W.heap.size := by obtain ⟨m, hm⟩ := k1; exact DataW.trod_lt m _ _ _ hm
  obtain ⟨x1, c1, els1, rfl, y1, fe1, z1⟩ := flat_slice Try.underlying83 (by decide) (okWide_slice Try.underlying83 (hval 1 83 v1 rfl rfl)) k1
  obtain ⟨l1, rfl, w1⟩ := as_puts7 fe1
  have k2 := h2
  have lt2 : ∀ x ∈ p2, x.block < W.heap.size := by obtain ⟨m, hm⟩ := k2; exact DataW.trod_lt m _ _ _ hm
  obtain ⟨cs2, rfl, _⟩ := okWide_struct Try.underlying29 (hval 2 29 v2 rfl rfl)
  obtain ⟨a2, rfl, w2⟩ := as_cap7 (flat_arg (ks := [some .i64, some .i64, some .i64, some .u64, some .u64, some .i64]) k2)
  obtain ⟨a3, rfl, rfl, rfl, w3⟩ := open_int Try.underlying22 (hval 3 22 v3 rfl rfl) h3
  obtain ⟨a4, rfl, rfl, rfl, w4⟩ := open_int Try.underlying3 (hval 4 3 v4 rfl rfl) h4
  clear hA0 hval0
  refine (walk W x0 c0 l0 x1 c1 l1 a2 a3 a4 w0 y0 z0 w1 y1 z1 w2 w3 w4).mono fun e W' ⟨he, bel⟩ => ?_
  subst he
  exact ⟨_, rfl, _, _, _, [], _, [], hW', trodAll_mk1 (shut_bool Try.underlying4 _), (trodAll_cons_mk (Below.trod laidOut (by kernel_rfl) (of_decide_eq_true (by kernel_rfl)) k0 bel lt0) (trodAll_cons_mk (Below.trod laidOut (by kernel_rfl) (of_decide_eq_true (by kernel_rfl)) k1 bel lt1) (trodAll_cons_mk (Below.trod laidOut (by kernel_rfl) (of_decide_eq_true (by kernel_rfl)) k2 bel lt2) (trodAll_cons_mk (shut_int Try.underlying22 w3) (trodAll_cons_mk (shut_int Try.underlying3 w4) trodAll_mk0))))), rfl, bel.frame _, fun h => by cases h⟩

theorem over : Rows.guardFindsRow.holds Try.pinned (OpenSpec.ofChange Rows.guardFindsSpec) :=
  OpenClaim.holds_of_wide 13 Try.f13 rfl rfl rfl rfl rfl rfl rfl ⟨rfl, rfl, rfl, rfl, rfl⟩ rfl rfl rfl rfl rfl (by kernel_rfl) Try.func13 (by kernel_rfl)
    (of_decide_eq_true (by kernel_rfl)) (by unfold Func.isWrapper; first | (rw [if_pos (by decide +kernel)]; kernel_rfl) | (rw [if_neg (by decide +kernel)]; exact ⟨rfl, rfl⟩))
    (fun os started H enc _ => lifted os started H enc)

theorem proved : Rows.GuardFindsSaid := over
#print axioms proved
end Go.Proofs.Ytpoamckpdpkpoaa.guardFinds
