/- RevokeTells. Laid together by pack.py out of the texts in wip. -/
import Derived.Test.YtdodfnjmkpgdbaaPRevokeTells4
set_option linter.unusedVariables false
set_option linter.unusedSimpArgs false
set_option linter.unusedSectionVars false
namespace Go.Proofs.Ytdodfnjmkpgdbaa.revokeTells
open Go.ChangeShapes Go.WideShapes Go.ChangeAt Go.RowKit
set_option linter.unusedVariables false
open Go.SL (FlatTy FlatFs flat_arg flat_slice ArgS allHp)
instance fl3 : FlatTy Try.prog 3 [some .i64] := FlatTy.int Try.underlying3 (by kernel_rfl)
instance fl38 : FlatTy Try.prog 38 [some .i64, some .i64] := FlatTy.struct (kss := [[some .i64], [some .i64]]) Try.underlying38 (FlatFs.cons rfl fl3 (FlatFs.cons rfl fl3 FlatFs.nil)) (by kernel_rfl)
instance fl22 : FlatTy Try.prog 22 [some .u64] := FlatTy.int Try.underlying22 (by kernel_rfl)
instance fl24 : FlatTy Try.prog 24 [some .i64, some .i64, some .i64, some .u64, some .u64, some .i64] := FlatTy.struct (kss := [[some .i64], [some .i64], [some .i64], [some .u64], [some .u64], [some .i64]]) Try.underlying24 (FlatFs.cons rfl fl3 (FlatFs.cons rfl fl3 (FlatFs.cons rfl fl3 (FlatFs.cons rfl fl22 (FlatFs.cons rfl fl22 (FlatFs.cons rfl fl3 FlatFs.nil)))))) (by kernel_rfl)
instance fl51 : FlatTy Try.prog 51 [some .i64, some .i64, some .i64, some .i64, some .i64, some .i64, some .i64, some .i64, some .i64, some .i64, some .u64, some .u64, some .i64, some .i64, some .i64, some .u64, some .u64, some .i64] := FlatTy.struct (kss := [[some .i64], [some .i64, some .i64], [some .i64, some .i64], [some .i64, some .i64], [some .i64, some .i64, some .i64, some .u64, some .u64, some .i64], [some .i64], [some .i64], [some .u64], [some .u64], [some .i64]]) Try.underlying51 (FlatFs.cons rfl fl3 (FlatFs.cons rfl fl38 (FlatFs.cons rfl fl38 (FlatFs.cons rfl fl38 (FlatFs.cons rfl fl24 (FlatFs.cons rfl fl3 (FlatFs.cons rfl fl3 (FlatFs.cons rfl fl22 (FlatFs.cons rfl fl22 (FlatFs.cons rfl fl3 FlatFs.nil)))))))))) (by kernel_rfl)
instance fl104 : FlatTy Try.prog 104 [some .i64, some .i64, some .i64, some .i64, some .i64, some .i64, some .i64, some .i64, some .i64, some .i64, some .u64, some .u64, some .i64, some .i64, some .i64, some .u64, some .u64, some .i64, some .i64] := FlatTy.struct (kss := [[some .i64, some .i64, some .i64, some .i64, some .i64, some .i64, some .i64, some .i64, some .i64, some .i64, some .u64, some .u64, some .i64, some .i64, some .i64, some .u64, some .u64, some .i64], [some .i64]]) Try.underlying104 (FlatFs.cons rfl fl51 (FlatFs.cons rfl fl3 FlatFs.nil)) (by kernel_rfl)
theorem own : ownKnob Try.prog.godebug = none := by kernel_rfl
theorem laidOut : laidOutB Try.prog = true := by kernel_rfl
theorem walk (w : World) (x0 : Option Addr) (c0 : Nat) (l0 : List OpR) (a1 : SlotM) (a2 : Int) (a3 : Bool) (w0 : ∀ o ∈ l0, (fun o : OpR => OpC.Rg o.o) o) (y0 : (l0.map OpR.cells).length ≤ maxLen) (z0 : ArgS (allHp w) 19 x0 (l0.map OpR.cells)) (w1 : (fun _ => True) a1) (w2 : (Lit.int .i64 a2).wf = true) :
    Calls Try.prog 10 #[.slice x0 (l0.map OpR.cells).length c0, slotV a1, .int .i64 a2, .bool a3] w fun e w' => e = .returned (.bool true) ∧ Below w.heap.size w w' := by
  rw [List.length_map] at y0 ⊢
  exact (tr_revokeTells (Go.SL.allHp w) x0 c0 l0 z0 w0 y0 a1 a2 a3).callsG
set_option maxRecDepth 100000 in
theorem lifted (os : Os) (started : os.Started) (H : Type) (enc : TypeId × Value → H) :
    ReturnsInHanded {} Try.checked os 10 .any (Rows.revokeTellsSpec.pre6 enc Try.prog Try.f10 Rows.revokeTellsRow.domain false) (Rows.revokeTellsSpec.post enc Try.prog Try.f10 false true false false) := by
  refine returnsInHanded_of_change (C := Try.checked) own started (by kernel_rfl) Try.func10
    (ChangeSpec.witness6 (enc := enc) (C := Try.checked) false ⟨#[], #[.slice none 0 0, .agg #[.int .i64 0, .int .i64 0], .int .i64 0, .bool false], []⟩ 8 (by kernel_rfl) (by kernel_rfl) (by kernel_rfl) (by kernel_rfl)) ?_
  intro W base args ds gs before hval0 hW hcnd _
  have hval : ∀ (j : Nat) t v, Try.f10.params[j]? = some t → args[j]? = some v → Value.okWide Try.prog W .any base t v := hval0
  have hW' := hW
  obtain ⟨p, q, hA0, hV, rfl, hfz, hnd⟩ := hW
  have hA : DataW.TrodAll enc Try.prog W 0 (fun _ => true) true Try.f10.params.toList args.toList ds p := hA0
  rw [Try.params10] at hA hval
  obtain ⟨v0, vs0, d0, ds0, p0, q0, hargs, rfl, rfl, h0, r0⟩ := trodAll_cons hA
  obtain ⟨v1, vs1, d1, ds1, p1, q1, rfl, rfl, rfl, h1, r1⟩ := trodAll_cons r0
  obtain ⟨v2, vs2, d2, ds2, p2, q2, rfl, rfl, rfl, h2, r2⟩ := trodAll_cons r1
  obtain ⟨v3, vs3, d3, ds3, p3, q3, rfl, rfl, rfl, h3, r3⟩ := trodAll_cons r2
  obtain ⟨rfl, rfl, rfl⟩ := trodAll_nil r3
  obtain rfl : args = #[v0, v1, v2, v3] := by cases args; simp_all
  obtain ⟨rfl, rfl⟩ := trodVars_none hV
  have k0 := h0
  have lt0 : ∀ x ∈ p0, x.block < W.heap.size := by obtain ⟨m, hm⟩ := k0; exact DataW.trod_lt m _ _ _ hm
  obtain ⟨x0, c0, els0, rfl, y0, fe0, z0⟩ := flat_slice Try.underlying71 (by decide) (okWide_slice Try.underlying71 (hval 0 71 v0 rfl rfl)) k0
  obtain ⟨l0, rfl, w0⟩ := as_opRs fe0
  have k1 := h1
  have lt1 : ∀ x ∈ p1, x.block < W.heap.size := by obtain ⟨m, hm⟩ := k1; exact DataW.trod_lt m _ _ _ hm
  obtain ⟨cs1, rfl, _⟩ := okWide_struct Try.underlying38 (hval 1 38 v1 rfl rfl)
  obtain ⟨a1, rfl, w1⟩ := as_slot11 (flat_arg (ks := [some .i64, some .i64]) k1)
  obtain ⟨a2, rfl, rfl, rfl, w2⟩ := open_int Try.underlying3 (hval 2 3 v2 rfl rfl) h2
  obtain ⟨a3, rfl, rfl, rfl⟩ := open_bool Try.underlying4 (hval 3 4 v3 rfl rfl) h3
  clear hA0 hval0
  refine (walk W x0 c0 l0 a1 a2 a3 w0 y0 z0 w1 w2).mono fun e W' ⟨he, bel⟩ => ?_
  subst he
  exact ⟨_, rfl, _, _, _, [], _, [], hW', trodAll_mk1 (shut_bool Try.underlying4 _), (trodAll_cons_mk (Below.trod laidOut (by kernel_rfl) (of_decide_eq_true (by kernel_rfl)) k0 bel lt0) (trodAll_cons_mk (Below.trod laidOut (by kernel_rfl) (of_decide_eq_true (by kernel_rfl)) k1 bel lt1) (trodAll_cons_mk (shut_int Try.underlying3 w2) (trodAll_cons_mk (shut_bool Try.underlying4 _) trodAll_mk0)))), rfl, bel.frame _, fun h => by cases h⟩
theorem over : Rows.revokeTellsRow.holds Try.pinned (OpenSpec.ofChange Rows.revokeTellsSpec) :=
  OpenClaim.holds_of_wide 10 Try.f10 rfl rfl rfl rfl rfl rfl rfl ⟨rfl, rfl, rfl, rfl, rfl⟩ rfl rfl rfl rfl rfl (by kernel_rfl) Try.func10 (by kernel_rfl)
    (of_decide_eq_true (by kernel_rfl)) (by unfold Func.isWrapper; first | (rw [if_pos (by decide +kernel)]; kernel_rfl) | (rw [if_neg (by decide +kernel)]; exact ⟨rfl, rfl⟩))
    (fun os started H enc _ => lifted os started H enc)
theorem proved : Rows.RevokeTellsSaid := over
#print axioms proved
end Go.Proofs.Ytdodfnjmkpgdbaa.revokeTells
