/- KernelSends. Laid together by pack.py out of the texts in wip. -/
import Derived.Test.YtipncceiekalfaaGreatPKernelSends6
set_option linter.unusedVariables false
set_option linter.unusedSimpArgs false
set_option linter.unusedSectionVars false
namespace Go.Proofs.YtipncceiekalfaaGreat.kernelSends
open Go.ChangeShapes Go.WideShapes Go.ChangeAt Go.RowKit
set_option linter.unusedVariables false
open Go.SL (FlatTy FlatFs flat_arg flat_slice ArgS allHp)
instance fl22 : FlatTy Tryz.prog 22 [some .u64] := FlatTy.int Tryz.underlying22 (by kernel_rfl)
theorem own : ownKnob Tryz.prog.godebug = none := by kernel_rfl
theorem laidOut : laidOutB Tryz.prog = true := by kernel_rfl
theorem walk (w : World) (a0 : Int) (x1 : Option Addr) (c1 : Nat) (l1 : List Int) (a2 : Int) (a3 : Bool) (w0 : (Lit.int .u64 a0).wf = true) (w1 : ∀ o ∈ l1, (fun x : Int => U64 x) o) (y1 : (l1.map (fun x => [Value.int .u64 x])).length ≤ maxLen) (z1 : ArgS (allHp w) 1 x1 (l1.map (fun x => [Value.int .u64 x]))) (q1 : (l1.map (fun x => [Value.int .u64 x])).length ≤ c1) (s1 : (l1.map (fun x => [Value.int .u64 x])).length * 8 ≤ 140737488351232) (w2 : (Lit.int .u64 a2).wf = true) :
    Calls Tryz.prog 5 #[.int .u64 a0, .slice x1 (l1.map (fun x => [Value.int .u64 x])).length c1, .int .u64 a2, .bool a3] w fun e w' => e = .returned (.bool true) ∧ Below w.heap.size w w' := by
  obtain ⟨lb, rfl, hlb⟩ := Go.SL.lit_u64 w0
  obtain ⟨p, rfl, hp⟩ := Go.SL.lit_u64 w2
  rw [List.length_map] at y1 q1 s1 ⊢
  cases a3
  · exact (tr_kernelSendsF lb hlb (Go.SL.allHp w) x1 c1 l1 (words_view (Go.SL.own_all w).nd z1 q1) (by omega) w1 p (by omega)).callsG
  · exact (tr_kernelSendsT lb hlb (Go.SL.allHp w) x1 c1 l1 (words_view (Go.SL.own_all w).nd z1 q1) (by omega) w1 p (by omega)).callsG
set_option maxRecDepth 100000 in
theorem lifted (os : Os) (started : os.Started) (H : Type) (enc : TypeId × Value → H) :
    ReturnsInHanded {} Tryz.checked os 5 .any (Rows.kernelSendsSpec.pre6 enc Tryz.prog Tryz.f5 Rows.kernelSendsRow.domain false) (Rows.kernelSendsSpec.post enc Tryz.prog Tryz.f5 false true false false) := by
  refine returnsInHanded_of_change_sized (C := Tryz.checked) own started (by kernel_rfl) Tryz.func5
    (ChangeSpec.witness6 (enc := enc) (C := Tryz.checked) false ⟨#[], #[.int .u64 0, .slice none 0 0, .int .u64 0, .bool false], []⟩ 8 (by kernel_rfl) (by kernel_rfl) (by kernel_rfl) (by kernel_rfl)) ?_
  intro W base args ds gs before hval0 hW hcnd hsz _
  have hval : ∀ (j : Nat) t v, Tryz.f5.params[j]? = some t → args[j]? = some v → Value.okWide Tryz.prog W .any base t v := hval0
  have hW' := hW
  obtain ⟨p, q, hA0, hV, rfl, hfz, hnd⟩ := hW
  have hA : DataW.TrodAll enc Tryz.prog W 0 (fun _ => true) true Tryz.f5.params.toList args.toList ds p := hA0
  rw [Tryz.params5] at hA hval
  obtain ⟨v0, vs0, d0, ds0, p0, q0, hargs, rfl, rfl, h0, r0⟩ := trodAll_cons hA
  obtain ⟨v1, vs1, d1, ds1, p1, q1, rfl, rfl, rfl, h1, r1⟩ := trodAll_cons r0
  obtain ⟨v2, vs2, d2, ds2, p2, q2, rfl, rfl, rfl, h2, r2⟩ := trodAll_cons r1
  obtain ⟨v3, vs3, d3, ds3, p3, q3, rfl, rfl, rfl, h3, r3⟩ := trodAll_cons r2
  obtain ⟨rfl, rfl, rfl⟩ := trodAll_nil r3
  obtain rfl : args = #[v0, v1, v2, v3] := by cases args; simp_all
  obtain ⟨rfl, rfl⟩ := trodVars_none hV
  obtain ⟨a0, rfl, rfl, rfl, w0⟩ := open_int Tryz.underlying22 (hval 0 22 v0 rfl rfl) h0
  have k1 := h1
  have lt1 : ∀ x ∈ p1, x.block < W.heap.size := by obtain ⟨m, hm⟩ := k1; exact DataW.trod_lt m _ _ _ hm
  obtain ⟨x1, c1, els1, rfl, y1, q1, fe1, z1⟩ := Go.SL.flat_slice2 Tryz.underlying25 (by decide) (okWide_slice Tryz.underlying25 (hval 1 25 v1 rfl rfl)) k1
  have s1 := slice_sized Tryz.underlying25 k1 hsz (j := 1) (by rfl) (by rfl)
  rw [show Tryz.prog.bytesOf 22 = 8 by kernel_rfl, show reachBytes = 140737488351232 by decide] at s1
  obtain ⟨l1, rfl, w1⟩ := as_words fe1
  obtain ⟨a2, rfl, rfl, rfl, w2⟩ := open_int Tryz.underlying22 (hval 2 22 v2 rfl rfl) h2
  obtain ⟨a3, rfl, rfl, rfl⟩ := open_bool Tryz.underlying4 (hval 3 4 v3 rfl rfl) h3
  clear hA0 hval0
  refine (walk W a0 x1 c1 l1 a2 a3 w0 w1 y1 z1 q1 s1 w2).mono fun e W' ⟨he, bel⟩ => ?_
  subst he
  exact ⟨_, rfl, _, _, _, [], _, [], hW', trodAll_mk1 (shut_bool Tryz.underlying4 _), (trodAll_cons_mk (shut_int Tryz.underlying22 w0) (trodAll_cons_mk (Below.trod laidOut (by kernel_rfl) (of_decide_eq_true (by kernel_rfl)) k1 bel lt1) (trodAll_cons_mk (shut_int Tryz.underlying22 w2) (trodAll_cons_mk (shut_bool Tryz.underlying4 _) trodAll_mk0)))), rfl, bel.frame _, fun h => by cases h⟩
theorem over : Rows.kernelSendsRow.holds Tryz.pinned (OpenSpec.ofChange Rows.kernelSendsSpec) :=
  OpenClaim.holds_of_wide 5 Tryz.f5 rfl rfl rfl rfl rfl rfl rfl ⟨rfl, rfl, rfl, rfl, rfl⟩ rfl rfl rfl rfl rfl (by kernel_rfl) Tryz.func5 (by kernel_rfl)
    (of_decide_eq_true (by kernel_rfl)) (by unfold Func.isWrapper; first | (rw [if_pos (by decide +kernel)]; kernel_rfl) | (rw [if_neg (by decide +kernel)]; exact ⟨rfl, rfl⟩))
    (fun os started H enc _ => lifted os started H enc)
theorem proved : Rows.KernelSendsSaid := over
#print axioms proved
end Go.Proofs.YtipncceiekalfaaGreat.kernelSends
