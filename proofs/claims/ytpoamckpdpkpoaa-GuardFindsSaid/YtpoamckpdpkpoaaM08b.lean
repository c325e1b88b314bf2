/- Layer 8 in plain Lean, second part: what the laws ask of a store with one node. No condition. -/
import Derived.Test.YtpoamckpdpkpoaaM08
import Derived.Test.YtpoamckpdpkpoaaW07
set_option linter.unusedVariables false
set_option linter.unusedSimpArgs false
namespace Go.Proofs.Ytpoamckpdpkpoaa
open Go.SL

section
variable {S : StoreM} (hS : S.nodes = []) (id : Int) (b r : Nat)
include hS
theorem add_nodes : (S.addNode id b r).nodes = [(id, ⟨b, r, zeroCaps⟩, S.clk)] := by simp [StoreM.addNode, hS]
theorem add_nget (o : Int) : nget o (S.addNode id b r).nodes = if o = id then some ⟨b, r, zeroCaps⟩ else none := by
  rw [add_nodes hS]; simp [nget]
theorem add_radix (o : Int) : (S.addNode id b r).radix o = if o = id then (r : Int) else 0 := by
  unfold StoreM.radix; rw [add_nget hS]; by_cases h : o = id
  · rw [if_pos h, if_pos h]
  · rw [if_neg h, if_neg h]
theorem add_get (s : SlotM) : ((S.addNode id b r).get s).1.kind = 0 := by
  unfold StoreM.get StoreM.cap?
  rw [add_nget hS]
  by_cases h : s.1 = id
  · rw [if_pos h]
    dsimp only
    split
    · rfl
    · next x hx =>
      split at hx
      · have := List.mem_of_getElem? hx
        rw [List.eq_of_mem_replicate this]
      · cases hx
  · rw [if_neg h]
theorem add_wf (h0 : 0 ≤ id) (h1 : id < 64) (h2 : 1 ≤ r) (hr : r ≤ 4) : (S.addNode id b r).Wf := by
  intro o n hn
  rw [add_nget hS] at hn
  split at hn
  · next h => cases hn; subst h; exact ⟨⟨by simp [zeroCaps], h2, hr⟩, h0, h1⟩
  · cases hn
end

theorem resolve_one {S : StoreM} {o : Int} {g n r t m : Nat} (hr : S.radix o = (r : Int)) (hk : ∀ x, (S.get x).1.kind = 0) (h1 : 1 ≤ r) (hg : g < 2 ^ n) (ht : t < 2 ^ r) (hd : n + r + m ≤ 16) :
    resolveM S ⟨2, o, 0, 0, g, n⟩ ((g * 2 ^ r + t) * 2 ^ m) ((n + r + m : Nat) : Int) = ((o, (t : Int)), (m : Int), 0) := by
  have hlt : g * 2 ^ r + t < 2 ^ (n + r) := by
    have : (g + 1) * 2 ^ r ≤ 2 ^ n * 2 ^ r := Nat.mul_le_mul_right _ hg
    rw [Nat.pow_add]; rw [Nat.add_mul] at this; omega
  have e0 : (g * 2 ^ r + t) * 2 ^ m / 2 ^ (n + r + m) = 0 := by
    rw [Nat.pow_add (m := n + r), Nat.mul_div_mul_right _ _ (Nat.two_pow_pos m)]
    exact Nat.div_eq_of_lt hlt
  have e1 : nxtL (n + r + m) (n : Int) = r + m := by unfold nxtL; rw [if_pos (by omega)]; omega
  have e2 : nxtOk (n + r + m) (n : Int) = true := decide_eq_true (by omega)
  have e3 : nxtV ((g * 2 ^ r + t) * 2 ^ m) (n + r + m) (n : Int) = g := by
    unfold nxtV takeBits
    rw [if_pos (by omega), Int.toNat_natCast, show n + r + m - n = r + m by omega, Nat.pow_add, Nat.mul_div_mul_right _ _ (Nat.two_pow_pos m), Nat.mul_comm g, Nat.mul_add_div (Nat.two_pow_pos r), Nat.div_eq_of_lt ht, Nat.add_zero, Nat.mod_eq_of_lt hg]
  have e4 : nxtOk (r + m) (r : Int) = true := decide_eq_true (by omega)
  have e5 : nxtL (r + m) (r : Int) = m := by unfold nxtL; rw [if_pos (by omega)]; omega
  have e6 : nxtV ((g * 2 ^ r + t) * 2 ^ m) (r + m) (r : Int) = t := by
    unfold nxtV takeBits
    rw [if_pos (by omega), Int.toNat_natCast, show r + m - r = m by omega, Nat.mul_div_cancel _ (Nat.two_pow_pos m), Nat.mul_comm g, Nat.mul_add_mod, Nat.mod_eq_of_lt ht]
  unfold resolveM
  rw [if_neg (by rw [Int.toNat_natCast]; omega), if_neg (by simp), Int.toNat_natCast, resLoop]
  dsimp only
  rw [hr, e1, e2, e3, e4, e5, e6, if_neg (by rintro (h | h | h) <;> first | omega | cases h | exact h rfl), if_neg (by decide), if_pos (.inr (by rw [hk]; decide))]

theorem resolve_wrong {S : StoreM} {o : Int} {g w n r t : Nat} (hr : S.radix o = (r : Int)) (h1 : 1 ≤ r) (hw : w < 2 ^ n) (hne : w ≠ g) (ht : t < 2 ^ r) (hd : n + r ≤ 16) :
    resolveM S ⟨2, o, 0, 0, g, n⟩ (w * 2 ^ r + t) ((n + r : Nat) : Int) = errS 6 := by
  have hlt : w * 2 ^ r + t < 2 ^ (n + r) := by
    have : (w + 1) * 2 ^ r ≤ 2 ^ n * 2 ^ r := Nat.mul_le_mul_right _ hw
    rw [Nat.pow_add]; rw [Nat.add_mul] at this; omega
  have e3 : nxtV (w * 2 ^ r + t) (n + r) (n : Int) = w := by
    unfold nxtV takeBits
    rw [if_pos (by omega), Int.toNat_natCast, show n + r - n = r by omega, Nat.mul_comm w, Nat.mul_add_div (Nat.two_pow_pos r), Nat.div_eq_of_lt ht, Nat.add_zero, Nat.mod_eq_of_lt hw]
  unfold resolveM
  rw [if_neg (by rw [Int.toNat_natCast, Nat.div_eq_of_lt hlt]; omega), if_neg (by simp), Int.toNat_natCast, resLoop]
  dsimp only
  rw [hr, e3, if_pos (.inr (.inr (by omega)))]
theorem find_one {S : StoreM} {o : Int} {g n r t m : Nat} (hr : S.radix o = (r : Int)) (hk : ∀ x, (S.get x).1.kind = 0) (h1 : 1 ≤ r) (hg : g < 2 ^ n) (ht : t < 2 ^ r) (hd : n + r + m ≤ 16) :
    findM S ⟨2, o, 0, 0, g, n⟩ ((g * 2 ^ r + t) * 2 ^ m) ((n + r + m : Nat) : Int) = if m = 0 then ((o, (t : Int)), 0) else ((0, 0), 6) := by
  unfold findM
  rw [resolve_one hr hk h1 hg ht hd, if_neg (by simp)]
  dsimp only
  by_cases h : m = 0
  · rw [if_neg (by omega), if_pos h]
  · rw [if_pos (by omega), if_neg h]
theorem find_one0 {S : StoreM} {o : Int} {g n r t : Nat} (hr : S.radix o = (r : Int)) (hk : ∀ x, (S.get x).1.kind = 0) (h1 : 1 ≤ r) (hg : g < 2 ^ n) (ht : t < 2 ^ r) (hd : n + r ≤ 16) :
    findM S ⟨2, o, 0, 0, g, n⟩ (g * 2 ^ r + t) ((n + r : Nat) : Int) = ((o, (t : Int)), 0) := by
  have := find_one (m := 0) hr hk h1 hg ht hd
  rw [if_pos rfl, Nat.pow_zero, Nat.mul_one] at this; exact this
theorem find_wrong {S : StoreM} {o : Int} {g w n r t : Nat} (hr : S.radix o = (r : Int)) (h1 : 1 ≤ r) (hw : w < 2 ^ n) (hne : w ≠ g) (ht : t < 2 ^ r) (hd : n + r ≤ 16) :
    findM S ⟨2, o, 0, 0, g, n⟩ (w * 2 ^ r + t) ((n + r : Nat) : Int) = ((0, 0), 6) := by
  unfold findM
  rw [resolve_wrong hr h1 hw hne ht hd]; rfl

theorem xor_pow_ne (g i : Nat) : g ^^^ 2 ^ i ≠ g := by
  intro h
  have h1 : (g ^^^ 2 ^ i).testBit i = g.testBit i := by rw [h]
  rw [Nat.testBit_xor, Nat.testBit_two_pow_self] at h1
  cases hb : g.testBit i <;> rw [hb] at h1 <;> cases h1

/-- works() of the law package: four addresses in a store with node 1 of four slots. -/
theorem works_find {S : StoreM} (hS : S.nodes = []) (b : Nat) :
    findM (S.addNode 1 b 2) ⟨2, 1, 0, 0, 5, 3⟩ 22 5 = ((1, 2), 0) ∧ findM (S.addNode 1 b 2) ⟨2, 1, 0, 0, 4, 3⟩ 22 5 = ((0, 0), 6)
    ∧ findM (S.addNode 1 b 2) ⟨6, 0, 0, 0, 0, 0⟩ 22 5 = ((0, 0), 2) ∧ findM (S.addNode 1 b 2) ⟨2, 1, 0, 0, 4, 3⟩ 32 5 = ((0, 0), 1) := by
  have hr : (S.addNode 1 b 2).radix 1 = ((2 : Nat) : Int) := by rw [add_radix hS]; rfl
  have hk := add_get hS 1 b 2
  refine ⟨?_, ?_, ?_, ?_⟩
  · exact find_one0 (g := 5) (n := 3) (r := 2) (t := 2) hr hk (by decide) (by decide) (by decide) (by decide)
  · exact find_wrong (g := 4) (w := 5) (n := 3) (r := 2) (t := 2) hr (by decide) (by decide) (by decide) (by decide) (by decide)
  · rfl
  · rfl

end Go.Proofs.Ytpoamckpdpkpoaa
