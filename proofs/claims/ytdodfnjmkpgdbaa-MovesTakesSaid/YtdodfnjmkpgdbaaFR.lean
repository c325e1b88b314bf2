/- The frame of this seat's rows: from a contract over no blocks of its own to 'the function returns r, and below the heap's old size nothing has turned'. It holds for every program; no condition. -/
import Derived.Test.YtdodfnjmkpgdbaaSL
import Derived.Below
set_option linter.unusedVariables false
set_option linter.unusedSimpArgs false
namespace Go.SL
open Go.RowKit

/-- All blocks of a world. -/
def allHp (W : World) : Hp := W.heap.toList.zipIdx.map fun p => (p.2, p.1)
theorem allHp_fst (W : World) : (allHp W).map Prod.fst = List.range' 0 W.heap.size := by
  unfold allHp
  rw [List.map_map, show (Prod.fst ∘ fun p : Obj × Nat => (p.2, p.1)) = Prod.snd from rfl, List.zipIdx_map_snd, Array.length_toList]
theorem mem_allHp {W : World} {k : Nat} {o : Obj} : (k, o) ∈ allHp W ↔ W.heap[k]? = some o := by
  unfold allHp
  rw [List.mem_map]
  constructor
  · rintro ⟨⟨o', i⟩, h, e⟩
    cases e
    simpa using List.mem_zipIdx_iff_getElem?.1 h
  · intro h
    exact ⟨(o, k), List.mem_zipIdx_iff_getElem?.2 (by simpa using h), rfl⟩
theorem own_all (W : World) : Own W W (allHp W) :=
  ⟨rfl, rfl, rfl, by rw [allHp_fst]; exact List.nodup_range', fun p hp => mem_allHp.1 hp⟩
theorem below_of_own {W w' : World} {X : Hp} (h : Own W w' (X ++ allHp W)) : Below W.heap.size W w' := by
  have hb : ∀ k, k < W.heap.size → w'.heap[k]? = W.heap[k]? := fun k hk => by
    have e : W.heap[k]? = some W.heap[k] := Array.getElem?_eq_getElem hk
    rw [e]; exact h.get (k, W.heap[k]) (List.mem_append_right _ (mem_allHp.2 e))
  refine ⟨h.os, h.tape, h.out, ?_, hb⟩
  by_cases hs : W.heap.size ≤ w'.heap.size
  · exact hs
  · exfalso
    have h1 := hb w'.heap.size (by omega)
    rw [Array.getElem?_eq_none (Nat.le_refl _), Array.getElem?_eq_getElem (by omega)] at h1
    cases h1
theorem TrR.calls {P : Program} {f : FuncId} {args : List Value} {r : Value} (h : TrR P f args [] r) (W : World) :
    Calls P f args.toArray W fun e w' => e = .returned r ∧ Below W.heap.size W w' := by
  unfold TrR Tr at h
  refine (h W W (allHp W) (by simpa using own_all W)).mono fun e w' hx => ?_
  obtain ⟨v, L', he, ⟨rfl, rfl⟩, ho⟩ := hx
  exact ⟨he, below_of_own ho⟩
theorem TrR.callsG {P : Program} {f : FuncId} {args : List Value} {r : Value} {W : World} (h : TrR P f args (allHp W) r) :
    Calls P f args.toArray W fun e w' => e = .returned r ∧ Below W.heap.size W w' := by
  unfold TrR Tr at h
  refine (h W W [] (by simpa using own_all W)).mono fun e w' hx => ?_
  obtain ⟨v, L', he, ⟨rfl, rfl⟩, ho⟩ := hx
  exact ⟨he, below_of_own (X := []) (by simpa using ho)⟩
theorem lit_u64 {a : Int} (w : (Lit.int .u64 a).wf = true) : ∃ g : Nat, a = g ∧ g < 2 ^ 64 := by
  simp [Lit.wf, IntKind.min, IntKind.max, IntKind.signed, IntKind.bits] at w
  exact ⟨a.toNat, by omega, by omega⟩
theorem lit_i64 {a : Int} (w : (Lit.int .i64 a).wf = true) : -9223372036854775808 ≤ a ∧ a ≤ 9223372036854775807 := by
  simp [Lit.wf, IntKind.min, IntKind.max, IntKind.signed, IntKind.bits] at w
  omega
end Go.SL
