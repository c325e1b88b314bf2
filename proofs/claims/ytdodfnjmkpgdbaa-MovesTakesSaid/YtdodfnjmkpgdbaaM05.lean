/- Layers 4 and 5 in plain Lean: rights that are in both, and who gives no more than whom. No condition. -/
import Derived.Test.YtdodfnjmkpgdbaaM07s
set_option linter.unusedVariables false
set_option linter.unusedSimpArgs false
namespace Go.Proofs.Ytdodfnjmkpgdbaa
open Go.SL

/-- The lower k rights that are in both. -/
def mask4 (a b : Nat) : Nat → Nat
  | 0 => 0
  | k + 1 => mask4 a b k + (if a / 2 ^ k % 2 = 1 ∧ b / 2 ^ k % 2 = 1 then 2 ^ k else 0)
theorem mask4_lt (a b : Nat) : ∀ k, mask4 a b k < 2 ^ k
  | 0 => by simp [mask4]
  | k + 1 => by
    have := mask4_lt a b k
    simp only [mask4, Nat.pow_succ]
    split <;> omega
def withinM (a b : Int) : Prop := (0 ≤ a ∧ a ≤ 7) ∧ (0 ≤ b ∧ b ≤ 7) ∧ (mask4 a.toNat b.toNat 3 : Int) = a
instance (a b : Int) : Decidable (withinM a b) := inferInstanceAs (Decidable (_ ∧ _))
def weakM (a b : CapM) : Prop := checkM a = 0 ∧ checkM b = 0 ∧ a.kind = b.kind ∧ a.object = b.object ∧ withinM a.rights b.rights ∧ (b.badge = 0 ∨ a.badge = b.badge)
instance (a b : CapM) : Decidable (weakM a b) := inferInstanceAs (Decidable (_ ∧ _))
def d8 (P : Nat → Nat → Nat → Bool) : Bool := (List.range 8).all fun a => (List.range 8).all fun b => (List.range 8).all fun c => P a b c
theorem d8_at {P : Nat → Nat → Nat → Bool} (h : d8 P = true) {a b c : Nat} (ha : a < 8) (hb : b < 8) (hc : c < 8) : P a b c = true := by
  unfold d8 at h
  rw [List.all_eq_true] at h
  have h1 := h a (List.mem_range.2 ha)
  rw [List.all_eq_true] at h1
  have h2 := h1 b (List.mem_range.2 hb)
  rw [List.all_eq_true] at h2
  exact h2 c (List.mem_range.2 hc)
theorem mask_trans : d8 (fun a b c => !decide (mask4 a b 3 = a) || !decide (mask4 b c 3 = b) || decide (mask4 a c 3 = a)) = true := by decide
theorem mask_self : d8 (fun a _ _ => decide (mask4 a a 3 = a)) = true := by decide
theorem mask_in : d8 (fun a b _ => decide (mask4 (mask4 a b 3) a 3 = mask4 a b 3) && decide (mask4 a b 3 < 8)) = true := by decide
theorem withinM.trans {a b c : Int} (h : withinM a b) (k : withinM b c) : withinM a c := by
  obtain ⟨h1, h2, h3⟩ := h
  obtain ⟨k1, k2, k3⟩ := k
  refine ⟨h1, k2, ?_⟩
  have := d8_at mask_trans (a := a.toNat) (b := b.toNat) (c := c.toNat) (by omega) (by omega) (by omega)
  simp only [Bool.or_eq_true, Bool.not_eq_true', decide_eq_false_iff_not, decide_eq_true_iff] at this
  omega
theorem withinM.self {a : Int} (h : 0 ≤ a ∧ a ≤ 7) : withinM a a := by
  refine ⟨h, h, ?_⟩
  have := d8_at mask_self (a := a.toNat) (b := 0) (c := 0) (by omega) (by omega) (by omega)
  simp only [decide_eq_true_iff] at this
  omega
theorem weakM.trans {a b c : CapM} (h : weakM a b) (k : weakM b c) : weakM a c := by
  obtain ⟨h1, h2, h3, h4, h5, h6⟩ := h
  obtain ⟨k1, k2, k3, k4, k5, k6⟩ := k
  refine ⟨h1, k2, h3.trans k3, h4.trans k4, h5.trans k5, ?_⟩
  rcases k6 with k6 | k6
  · exact .inl k6
  · rcases h6 with h6 | h6
    · exact .inl (k6 ▸ h6)
    · exact .inr (h6.trans k6)
end Go.Proofs.Ytdodfnjmkpgdbaa
