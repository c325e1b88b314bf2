/- Layer 8 in plain Lean: where an address leads. No condition. -/
import Derived.Test.YtpoamckpdpkpoaaW07
set_option linter.unusedVariables false
set_option linter.unusedSimpArgs false
namespace Go.Proofs.Ytpoamckpdpkpoaa
open Go.SL

/-- The next n bits of an address of which l are left. -/
def takeBits (p l n : Nat) : Nat := p / 2 ^ (l - n) % 2 ^ n
def errS (e : Int) : SlotM × Int × Int := ((0, 0), 0, e)
/-- What the closure answers, when l bits are left and n are asked for. -/
def nxtOk (l : Nat) (n : Int) : Bool := decide (0 ≤ n ∧ n ≤ (l : Int))
def nxtV (p l : Nat) (n : Int) : Nat := if 0 ≤ n ∧ n ≤ (l : Int) then takeBits p l n.toNat else 0
def nxtL (l : Nat) (n : Int) : Nat := if 0 ≤ n ∧ n ≤ (l : Int) then l - n.toNat else l
def resLoop (S : StoreM) (p : Nat) : Nat → CapM → Nat → SlotM × Int × Int
  | 0, _, _ => errS 6
  | k + 1, c, l =>
    if S.radix c.object = 0 ∨ nxtOk l c.bits = false ∨ (nxtV p l c.bits : Int) ≠ c.guard then errS 6
    else if nxtOk (nxtL l c.bits) (S.radix c.object) = false then errS 6
    else if nxtL (nxtL l c.bits) (S.radix c.object) = 0 ∨ (S.get (c.object, (nxtV p (nxtL l c.bits) (S.radix c.object) : Int))).1.kind ≠ 2 then
      ((c.object, (nxtV p (nxtL l c.bits) (S.radix c.object) : Int)), (nxtL (nxtL l c.bits) (S.radix c.object) : Int), 0)
    else resLoop S p k (S.get (c.object, (nxtV p (nxtL l c.bits) (S.radix c.object) : Int))).1 (nxtL (nxtL l c.bits) (S.radix c.object))
def resolveM (S : StoreM) (root : CapM) (p : Nat) (depth : Int) : SlotM × Int × Int :=
  if depth < 1 ∨ 16 < depth ∨ p / 2 ^ depth.toNat ≠ 0 then errS 1
  else if root.kind ≠ 2 then errS 2
  else resLoop S p (depth.toNat + 1) root depth.toNat
def findM (S : StoreM) (root : CapM) (p : Nat) (depth : Int) : SlotM × Int :=
  if (resolveM S root p depth).2.2 ≠ 0 then ((0, 0), (resolveM S root p depth).2.2)
  else if 0 < (resolveM S root p depth).2.1 then ((0, 0), 6)
  else ((resolveM S root p depth).1, 0)

theorem takeBits_lt (p l n : Nat) : takeBits p l n < 2 ^ n := Nat.mod_lt _ (Nat.two_pow_pos n)

theorem bits_next {p l n : Nat} (hp : p < 2 ^ 64) (hl : l ≤ 16) (hn : n ≤ l) :
    bitsI .and .u64 ((p : Int).fdiv (2 ^ (min ((l : Int) - (n : Int)).toNat 64))) (IntKind.u64.wrap (IntKind.u64.wrap (1 * 2 ^ (min (n : Int).toNat 64)) - 1)) = (takeBits p l n : Int) := by
  have e1 : min ((l : Int) - (n : Int)).toNat 64 = l - n := by omega
  have e2 : min (n : Int).toNat 64 = n := by omega
  have hpos : 0 < 2 ^ n := Nat.two_pow_pos n
  have hle : 2 ^ n ≤ 2 ^ 16 := Nat.pow_le_pow_right (by omega) (by omega)
  have e3 : IntKind.u64.wrap (1 * 2 ^ n) = ((2 ^ n : Nat) : Int) := by
    rw [Int.one_mul, show ((2 : Int) ^ n) = ((2 ^ n : Nat) : Int) by norm_cast]
    exact u64 (by omega) (by omega)
  have e4 : IntKind.u64.wrap (((2 ^ n : Nat) : Int) - 1) = ((2 ^ n - 1 : Nat) : Int) := by
    rw [show (((2 ^ n : Nat) : Int) - 1) = ((2 ^ n - 1 : Nat) : Int) by omega]
    exact u64 (by omega) (by omega)
  rw [e1, e2, e3, e4, fdiv_pow, and_mask _ _ (Nat.lt_of_le_of_lt (Nat.div_le_self _ _) hp) (by omega)]
  rfl

theorem nxtL_le (l : Nat) (n : Int) : nxtL l n ≤ l := by unfold nxtL; split <;> omega
theorem nxtL_lt {l : Nat} {n : Int} (h : nxtOk l n = true) (hn : n ≠ 0) : nxtL l n < l := by
  have := of_decide_eq_true h
  unfold nxtL; rw [if_pos this]; omega
theorem nxtV_lt {p l : Nat} {n : Int} (hl : l ≤ 16) : nxtV p l n < 65536 := by
  unfold nxtV
  split
  · have h1 := takeBits_lt p l n.toNat
    have h2 : 2 ^ n.toNat ≤ 2 ^ 16 := Nat.pow_le_pow_right (by omega) (by omega)
    omega
  · omega
theorem StoreM.radix_nonneg (S : StoreM) (id : Int) : 0 ≤ S.radix id := by
  unfold StoreM.radix; split <;> omega

theorem resolve_e1 {S : StoreM} {root : CapM} {p : Nat} {depth : Int} (h : depth < 1 ∨ 16 < depth) : resolveM S root p depth = errS 1 := by
  unfold resolveM; rw [if_pos (by rcases h with h | h <;> simp [h])]
theorem resolve_e1' {S : StoreM} {root : CapM} {p : Nat} {depth : Int} (h1 : ¬ depth < 1) (h2 : ¬ 16 < depth) (h3 : (p : Int).fdiv (2 ^ (min depth.toNat 64)) ≠ 0) : resolveM S root p depth = errS 1 := by
  rw [show min depth.toNat 64 = depth.toNat by omega, fdiv_pow] at h3
  unfold resolveM; rw [if_pos (.inr (.inr (by omega)))]
theorem resolve_go0 {S : StoreM} {root : CapM} {p : Nat} {depth : Int} (h1 : ¬ depth < 1) (h2 : ¬ 16 < depth) (h3 : ¬ (p : Int).fdiv (2 ^ (min depth.toNat 64)) ≠ 0) : ¬ (depth < 1 ∨ 16 < depth ∨ p / 2 ^ depth.toNat ≠ 0) := by
  rw [show min depth.toNat 64 = depth.toNat by omega, fdiv_pow] at h3
  intro h
  rcases h with h | h | h
  · exact h1 h
  · exact h2 h
  · exact h3 (by omega)
theorem resolve_e2 {S : StoreM} {root : CapM} {p : Nat} {depth : Int} (h1 : ¬ depth < 1) (h2 : ¬ 16 < depth) (h3 : ¬ (p : Int).fdiv (2 ^ (min depth.toNat 64)) ≠ 0) (h4 : root.kind ≠ 2) : resolveM S root p depth = errS 2 := by
  unfold resolveM; rw [if_neg (resolve_go0 (S := S) (root := root) h1 h2 h3), if_pos h4]
theorem resolve_go {S : StoreM} {root : CapM} {p : Nat} {k : Nat} (h1 : ¬ (k : Int) < 1) (h2 : ¬ 16 < (k : Int)) (h3 : ¬ (p : Int).fdiv (2 ^ (min (k : Int).toNat 64)) ≠ 0) (h4 : ¬ root.kind ≠ 2) : resolveM S root p k = resLoop S p (k + 1) root k := by
  unfold resolveM; rw [if_neg (resolve_go0 (S := S) (root := root) h1 h2 h3), if_neg h4]; rfl
section
variable {S : StoreM} {p m l : Nat} {c : CapM}
theorem rl_e (h : S.radix c.object = 0 ∨ nxtOk l c.bits = false ∨ (nxtV p l c.bits : Int) ≠ c.guard) : resLoop S p (m + 1) c l = errS 6 := by rw [resLoop, if_pos h]
theorem rl_n (h5 : ¬ S.radix c.object = 0) (h6 : ¬ ¬ (0 ≤ c.bits ∧ c.bits ≤ (l : Int))) (h7 : ¬ (nxtV p l c.bits : Int) ≠ c.guard) :
    ¬ (S.radix c.object = 0 ∨ nxtOk l c.bits = false ∨ (nxtV p l c.bits : Int) ≠ c.guard) := by
  rintro (h | h | h)
  · exact h5 h
  · exact h6 (of_decide_eq_false h)
  · exact h7 h
theorem rl_e2 (h : ¬ (S.radix c.object = 0 ∨ nxtOk l c.bits = false ∨ (nxtV p l c.bits : Int) ≠ c.guard)) (h2 : nxtOk (nxtL l c.bits) (S.radix c.object) = false) : resLoop S p (m + 1) c l = errS 6 := by
  rw [resLoop, if_neg h, if_pos h2]
theorem rl_f (h : ¬ (S.radix c.object = 0 ∨ nxtOk l c.bits = false ∨ (nxtV p l c.bits : Int) ≠ c.guard)) (h2 : ¬ nxtOk (nxtL l c.bits) (S.radix c.object) = false)
    (h3 : nxtL (nxtL l c.bits) (S.radix c.object) = 0 ∨ (S.get (c.object, (nxtV p (nxtL l c.bits) (S.radix c.object) : Int))).1.kind ≠ 2) :
    resLoop S p (m + 1) c l = ((c.object, (nxtV p (nxtL l c.bits) (S.radix c.object) : Int)), (nxtL (nxtL l c.bits) (S.radix c.object) : Int), 0) := by
  rw [resLoop, if_neg h, if_neg h2, if_pos h3]
theorem rl_g (h : ¬ (S.radix c.object = 0 ∨ nxtOk l c.bits = false ∨ (nxtV p l c.bits : Int) ≠ c.guard)) (h2 : ¬ nxtOk (nxtL l c.bits) (S.radix c.object) = false)
    (h3 : ¬ (nxtL (nxtL l c.bits) (S.radix c.object) = 0 ∨ (S.get (c.object, (nxtV p (nxtL l c.bits) (S.radix c.object) : Int))).1.kind ≠ 2)) :
    resLoop S p (m + 1) c l = resLoop S p m (S.get (c.object, (nxtV p (nxtL l c.bits) (S.radix c.object) : Int))).1 (nxtL (nxtL l c.bits) (S.radix c.object)) := by
  rw [resLoop, if_neg h, if_neg h2, if_neg h3]
end

end Go.Proofs.Ytpoamckpdpkpoaa
