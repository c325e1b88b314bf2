/- Layer 8 in plain Lean, fourth part: the document's way through an address, and capabilities by addresses. No condition. -/
import Derived.Test.YtpoamckpdpkpoaaM08
import Derived.Test.YtpoamckpdpkpoaaM07t
set_option linter.unusedVariables false
set_option linter.unusedSimpArgs false
namespace Go.Proofs.Ytpoamckpdpkpoaa
open Go.SL

/-- The capability to which an address of all bits leads. -/
def capM (S : StoreM) (root : CapM) (p : Nat) : SlotM × CapM × Int :=
  if (resolveM S root p 16).2.2 ≠ 0 then ((0, 0), CapM.zero, (resolveM S root p 16).2.2)
  else if (S.get (resolveM S root p 16).1).1.kind = 0 then ((0, 0), CapM.zero, 3)
  else ((resolveM S root p 16).1, (S.get (resolveM S root p 16).1).1, 0)

theorem pow_cast (k : Nat) : ((2 : Int) ^ k) = ((2 ^ k : Nat) : Int) := by norm_cast
theorem resolve_d1 {S : StoreM} {root : CapM} {p : Nat} {depth : Int} (h : (depth < 1 ∨ 16 < depth) ∨ (p : Int) ≥ (2 : Int) ^ depth.toNat) : resolveM S root p depth = errS 1 := by
  unfold resolveM
  rw [if_pos]
  rcases h with (h | h) | h
  · exact .inl h
  · exact .inr (.inl h)
  · refine .inr (.inr ?_)
    rw [pow_cast] at h
    have h2 : 2 ^ depth.toNat ≤ p := by omega
    have := Nat.div_pos h2 (Nat.two_pow_pos _)
    omega
theorem resolve_dn {p : Nat} {depth : Int} (h : ¬ ((depth < 1 ∨ 16 < depth) ∨ (p : Int) ≥ (2 : Int) ^ depth.toNat)) : ¬ (depth < 1 ∨ 16 < depth ∨ p / 2 ^ depth.toNat ≠ 0) := by
  rintro (h' | h' | h')
  · exact h (.inl (.inl h'))
  · exact h (.inl (.inr h'))
  · refine h (.inr ?_)
    rw [pow_cast]
    rcases Nat.lt_or_ge p (2 ^ depth.toNat) with hl | hl
    · exact absurd (Nat.div_eq_of_lt hl) h'
    · omega
theorem resolve_d2 {S : StoreM} {root : CapM} {p : Nat} {depth : Int} (h : ¬ ((depth < 1 ∨ 16 < depth) ∨ (p : Int) ≥ (2 : Int) ^ depth.toNat)) (h4 : root.kind ≠ 2) : resolveM S root p depth = errS 2 := by
  unfold resolveM; rw [if_neg (resolve_dn h), if_pos h4]
theorem resolve_dgo {S : StoreM} {root : CapM} {p k : Nat} (h : ¬ (((k : Int) < 1 ∨ 16 < (k : Int)) ∨ (p : Int) ≥ (2 : Int) ^ (k : Int).toNat)) (h4 : ¬ root.kind ≠ 2) : resolveM S root p k = resLoop S p (k + 1) root k := by
  unfold resolveM; rw [if_neg (resolve_dn h), if_neg h4]; rfl
section
variable {S : StoreM} {p m l : Nat} {c : CapM}
theorem dl_e (h : ((S.radix c.object = 0 ∨ c.bits < 0) ∨ (l : Int) < c.bits) ∨ (l : Int) - c.bits < S.radix c.object) : resLoop S p (m + 1) c l = errS 6 := by
  by_cases h1 : S.radix c.object = 0 ∨ nxtOk l c.bits = false ∨ (nxtV p l c.bits : Int) ≠ c.guard
  · exact rl_e h1
  · refine rl_e2 h1 (decide_eq_false fun e => ?_)
    simp only [not_or] at h1
    have hok := of_decide_eq_true (by simpa using h1.2.1 : nxtOk l c.bits = true)
    unfold nxtL at e
    rw [if_pos hok] at e
    omega
theorem dl_e2 (h : (nxtV p l c.bits : Int) ≠ c.guard) : resLoop S p (m + 1) c l = errS 6 := rl_e (.inr (.inr h))
theorem dl_n (h : ¬ (((S.radix c.object = 0 ∨ c.bits < 0) ∨ (l : Int) < c.bits) ∨ (l : Int) - c.bits < S.radix c.object)) (h2 : ¬ (nxtV p l c.bits : Int) ≠ c.guard) :
    ¬ (S.radix c.object = 0 ∨ nxtOk l c.bits = false ∨ (nxtV p l c.bits : Int) ≠ c.guard) := by
  rintro (h' | h' | h')
  · omega
  · exact absurd (show 0 ≤ c.bits ∧ c.bits ≤ (l : Int) by omega) (of_decide_eq_false h')
  · exact h2 h'
theorem dl_ok (h : ¬ (((S.radix c.object = 0 ∨ c.bits < 0) ∨ (l : Int) < c.bits) ∨ (l : Int) - c.bits < S.radix c.object)) :
    (0 ≤ c.bits ∧ c.bits ≤ (l : Int)) ∧ ((nxtL l c.bits : Nat) : Int) = l - c.bits ∧ (0 ≤ S.radix c.object ∧ S.radix c.object ≤ (nxtL l c.bits : Int)) ∧ ((nxtL (nxtL l c.bits) (S.radix c.object) : Nat) : Int) = (nxtL l c.bits : Int) - S.radix c.object := by
  have h0 : 0 ≤ c.bits ∧ c.bits ≤ (l : Int) := by omega
  have e1 : ((nxtL l c.bits : Nat) : Int) = l - c.bits := by unfold nxtL; rw [if_pos h0]; omega
  have hr0 := S.radix_nonneg c.object
  have h2 : 0 ≤ S.radix c.object ∧ S.radix c.object ≤ (nxtL l c.bits : Int) := by omega
  exact ⟨h0, e1, h2, by generalize nxtL l c.bits = j at *; unfold nxtL; rw [if_pos h2]; omega⟩
theorem dl_n2 (h : 0 ≤ S.radix c.object ∧ S.radix c.object ≤ (nxtL l c.bits : Int)) : ¬ nxtOk (nxtL l c.bits) (S.radix c.object) = false := fun e => (of_decide_eq_false e) h
end
theorem front_eq {p l : Nat} {n : Int} (h : 0 ≤ n ∧ n ≤ (l : Int)) (hl : l ≤ 16) : ((p : Int).fdiv (2 ^ (min ((l : Int) - n).toNat 64))).tmod (IntKind.u64.wrap (1 * 2 ^ (min n.toNat 64))) = (nxtV p l n : Int) := by
  obtain ⟨k, rfl⟩ : ∃ k : Nat, n = k := ⟨n.toNat, by omega⟩
  rw [show min ((l : Int) - (k : Int)).toNat 64 = l - k by omega, fdiv_pow, shl1 (by omega), tmod_nat rfl]
  unfold nxtV takeBits
  rw [if_pos h, Int.toNat_natCast]

/-! ### The arguments -/
structure PutM where
  slot : SlotM
  c : CapM
abbrev PutM.cells (o : PutM) : List Value := [.int .i64 o.slot.1, .int .i64 o.slot.2, .int .i64 o.c.kind, .int .i64 o.c.object, .int .i64 o.c.rights, .int .u64 o.c.badge, .int .u64 o.c.guard, .int .i64 o.c.bits]
end Go.Proofs.Ytpoamckpdpkpoaa
