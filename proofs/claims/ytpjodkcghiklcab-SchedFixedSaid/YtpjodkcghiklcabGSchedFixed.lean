/- The row of SchedFixed: the walk met with the given statement. No condition. -/
import Derived.Test.YtpjodkcghiklcabRows
import Derived.WalkKit
import Derived.ProofKit
import Derived.OpenShut
import Derived.ChangeOld
import Derived.Below
import Derived.Test.YtpjodkcghiklcabFL
import Derived.Test.YtpjodkcghiklcabW21c
namespace Go.Proofs.Ytpjodkcghiklcab.schedFixed
open Go.ChangeShapes Go.WideShapes Go.ChangeAt Go.RowKit
set_option linter.unusedVariables false
open Go.SL (FlatTy FlatFs flat_arg flat_slice ArgS allHp)

instance fl3 : FlatTy Try.prog 3 [some .i64] := FlatTy.int Try.underlying3 (by kernel_rfl)
instance fl32 : FlatTy Try.prog 32 [some .i64, some .i64] := FlatTy.struct (kss := [[some .i64], [some .i64]]) Try.underlying32 (FlatFs.cons rfl fl3 (FlatFs.cons rfl fl3 FlatFs.nil)) (by kernel_rfl)
instance fl42 : FlatTy Try.prog 42 [some .i64, some .i64, some .i64, some .i64] := FlatTy.struct (kss := [[some .i64], [some .i64], [some .i64], [some .i64]]) Try.underlying42 (FlatFs.cons rfl fl3 (FlatFs.cons rfl fl3 (FlatFs.cons rfl fl3 (FlatFs.cons rfl fl3 FlatFs.nil)))) (by kernel_rfl)

theorem own : ownKnob Try.prog.godebug = none := by kernel_rfl
theorem laidOut : laidOutB Try.prog = true := by kernel_rfl

theorem walk (w : World) (x0 : Option Addr) (c0 : Nat) (l0 : List (Int × Int)) (x1 : Option Addr) (c1 : Nat) (l1 : List OpS) (a2 : Int) (w0 : ∀ o ∈ l0, (fun _ => True) o) (y0 : (l0.map oneC).length ≤ maxLen) (z0 : ArgS (allHp w) 2 x0 (l0.map oneC)) (q0 : (l0.map oneC).length ≤ c0) (w1 : ∀ o ∈ l1, (fun _ => True) o) (y1 : (l1.map OpS.cells).length ≤ maxLen) (z1 : ArgS (allHp w) 4 x1 (l1.map OpS.cells)) (w2 : (Lit.int .i64 a2).wf = true) :
    Calls Try.prog 5 #[.slice x0 (l0.map oneC).length c0, .slice x1 (l1.map OpS.cells).length c1, .int .i64 a2] w fun e w' => e = .returned (.bool true) ∧ Below w.heap.size w w' := by
  rw [List.length_map] at y0 q0 y1
  rw [List.length_map, List.length_map]
  exact (tr_schedFixed (Go.SL.allHp w) (Go.SL.own_all w).nd x0 c0 l0 z0 q0 y0 x1 c1 l1 z1 y1 a2).callsG

set_option maxRecDepth 100000 in
theorem lifted (os : Os) (started : os.Started) (H : Type) (enc : TypeId × Value → H) :
    ReturnsInHanded {} Try.checked os 5 .any (Rows.schedFixedSpec.pre6 enc Try.prog Try.f5 Rows.schedFixedRow.domain false) (Rows.schedFixedSpec.post enc Try.prog Try.f5 false true false false) := by
  refine returnsInHanded_of_change (C := Try.checked) own started (by kernel_rfl) Try.func5
    (ChangeSpec.witness6 (enc := enc) (C := Try.checked) false ⟨#[], #[.slice none 0 0, .slice none 0 0, .int .i64 0], []⟩ 8 (by kernel_rfl) (by kernel_rfl) (by kernel_rfl) (by kernel_rfl)) ?_
  intro W base args ds gs before hval0 hW hcnd _
  have hval : ∀ (j : Nat) t v, Try.f5.params[j]? = some t → args[j]? = some v → Value.okWide Try.prog W .any base t v := hval0
  have hW' := hW
  obtain ⟨p, q, hA0, hV, rfl, hfz, hnd⟩ := hW
  have hA : DataW.TrodAll enc Try.prog W 0 (fun _ => true) true Try.f5.params.toList args.toList ds p := hA0
  rw [Try.params5] at hA hval
  obtain ⟨v0, vs0, d0, ds0, p0, q0, hargs, rfl, rfl, h0, r0⟩ := trodAll_cons hA
  obtain ⟨v1, vs1, d1, ds1, p1, q1, rfl, rfl, rfl, h1, r1⟩ := trodAll_cons r0
  obtain ⟨v2, vs2, d2, ds2, p2, q2, rfl, rfl, rfl, h2, r2⟩ := trodAll_cons r1
  obtain ⟨rfl, rfl, rfl⟩ := trodAll_nil r2
  obtain rfl : args = #[v0, v1, v2] := by cases args; simp_all
  obtain ⟨rfl, rfl⟩ := trodVars_none hV
  have k0 := h0
  have lt0 : ∀ x ∈ p0, x.block < W.heap.size := by obtain ⟨m, hm⟩ := k0; exact DataW.trod_lt m _ _ _ hm
  obtain ⟨x0, c0, els0, rfl, y0, q0, fe0, z0⟩ := Go.SL.flat_slice2 Try.underlying22 (by decide) (okWide_slice Try.underlying22 (hval 0 22 v0 rfl rfl)) k0
  obtain ⟨l0, rfl, w0⟩ := as_times fe0
  have k1 := h1
  have lt1 : ∀ x ∈ p1, x.block < W.heap.size := by obtain ⟨m, hm⟩ := k1; exact DataW.trod_lt m _ _ _ hm
  obtain ⟨x1, c1, els1, rfl, y1, fe1, z1⟩ := flat_slice Try.underlying38 (by decide) (okWide_slice Try.underlying38 (hval 1 38 v1 rfl rfl)) k1
  obtain ⟨l1, rfl, w1⟩ := as_opss fe1
  obtain ⟨a2, rfl, rfl, rfl, w2⟩ := open_int Try.underlying3 (hval 2 3 v2 rfl rfl) h2
  clear hA0 hval0
  refine (walk W x0 c0 l0 x1 c1 l1 a2 w0 y0 z0 q0 w1 y1 z1 w2).mono fun e W' ⟨he, bel⟩ => ?_
  subst he
  exact ⟨_, rfl, _, _, _, [], _, [], hW', trodAll_mk1 (shut_bool Try.underlying4 _), (trodAll_cons_mk (Below.trod laidOut (by kernel_rfl) (of_decide_eq_true (by kernel_rfl)) k0 bel lt0) (trodAll_cons_mk (Below.trod laidOut (by kernel_rfl) (of_decide_eq_true (by kernel_rfl)) k1 bel lt1) (trodAll_cons_mk (shut_int Try.underlying3 w2) trodAll_mk0))), rfl, bel.frame _, fun h => by cases h⟩

theorem over : Rows.schedFixedRow.holds Try.pinned (OpenSpec.ofChange Rows.schedFixedSpec) :=
  OpenClaim.holds_of_wide 5 Try.f5 rfl rfl rfl rfl rfl rfl rfl ⟨rfl, rfl, rfl, rfl, rfl⟩ rfl rfl rfl rfl rfl (by kernel_rfl) Try.func5 (by kernel_rfl)
    (of_decide_eq_true (by kernel_rfl)) (by unfold Func.isWrapper; first | (rw [if_pos (by decide +kernel)]; kernel_rfl) | (rw [if_neg (by decide +kernel)]; exact ⟨rfl, rfl⟩))
    (fun os started H enc _ => lifted os started H enc)

theorem proved : Rows.SchedFixedSaid := over
#print axioms proved
end Go.Proofs.Ytpjodkcghiklcab.schedFixed
