/- Layer 8 in plain Lean, third part: nodes that lead to themselves, and addresses through two nodes. No condition. -/
import Derived.Test.YtpoamckpdpkpoaaM08b
import Derived.Test.YtpoamckpdpkpoaaM07c
set_option linter.unusedVariables false
set_option linter.unusedSimpArgs false
namespace Go.Proofs.Ytpoamckpdpkpoaa
open Go.SL

theorem res_step {S : StoreM} {p k n r m g t : Nat} {o : Int} (hr : S.radix o = (r : Int)) (h1 : 1 ≤ r) (e3 : p / 2 ^ (r + m) % 2 ^ n = g) (e6 : p / 2 ^ m % 2 ^ r = t) :
    resLoop S p (k + 1) ⟨2, o, 0, 0, g, n⟩ (n + r + m) = if m = 0 ∨ (S.get (o, (t : Int))).1.kind ≠ 2 then ((o, (t : Int)), (m : Int), 0) else resLoop S p k (S.get (o, (t : Int))).1 m := by
  have e1 : nxtL (n + r + m) (n : Int) = r + m := by unfold nxtL; rw [if_pos (by omega)]; omega
  have e2 : nxtOk (n + r + m) (n : Int) = true := decide_eq_true (by omega)
  have e3' : nxtV p (n + r + m) (n : Int) = g := by
    unfold nxtV takeBits
    rw [if_pos (by omega), Int.toNat_natCast, show n + r + m - n = r + m by omega, e3]
  have e4 : nxtOk (r + m) (r : Int) = true := decide_eq_true (by omega)
  have e5 : nxtL (r + m) (r : Int) = m := by unfold nxtL; rw [if_pos (by omega)]; omega
  have e6' : nxtV p (r + m) (r : Int) = t := by
    unfold nxtV takeBits
    rw [if_pos (by omega), Int.toNat_natCast, show r + m - r = m by omega, e6]
  rw [resLoop]
  dsimp only
  rw [hr, e1, e2, e3', e4, e5, e6', if_neg (by rintro (h | h | h) <;> first | omega | cases h | exact h rfl), if_neg (by decide)]

abbrev meC : CapM := ⟨2, 1, 0, 0, 0, 0⟩
theorem res_loops {S : StoreM} {r p : Nat} (hr : S.radix 1 = (r : Int)) (h1 : 1 ≤ r) (hg : ∀ j : Nat, j < 2 ^ r → (S.get (1, (j : Int))).1 = meC) :
    ∀ k l, 1 ≤ l → l < k → resLoop S p k meC l = if l % r = 0 then ((1, ((p % 2 ^ r : Nat) : Int)), 0, 0) else errS 6
  | 0, l, _, h => by omega
  | k + 1, l, hl, h => by
    by_cases hlr : l < r
    · rw [if_neg (by rw [Nat.mod_eq_of_lt hlr]; omega)]
      have a1 : nxtL l 0 = l := by unfold nxtL; rw [if_pos (by omega)]; omega
      have a3 : nxtOk l (r : Int) = false := decide_eq_false (by omega)
      rw [resLoop]
      dsimp only [meC]
      rw [hr]
      split
      · rfl
      · rw [a1, if_pos a3]
    · obtain ⟨m, rfl⟩ : ∃ m, l = r + m := ⟨l - r, by omega⟩
      have hs := @res_step S p k 0 r m 0 (p / 2 ^ m % 2 ^ r) 1 hr h1 (Nat.mod_one _) rfl
      rw [Nat.zero_add] at hs
      rw [show meC = ⟨2, 1, 0, 0, ((0 : Nat) : Int), ((0 : Nat) : Int)⟩ from rfl, hs, hg _ (Nat.mod_lt _ (Nat.two_pow_pos r))]
      by_cases hm : m = 0
      · subst hm
        rw [if_pos (.inl rfl), Nat.add_zero, Nat.mod_self, if_pos rfl, Nat.pow_zero, Nat.div_one]
        rfl
      · rw [if_neg (by rintro (h' | h'); exact hm h'; exact h' rfl), res_loops hr h1 hg k m (by omega) (by omega), Nat.add_mod_left]
theorem find_loops {S : StoreM} {r p d : Nat} (hr : S.radix 1 = (r : Int)) (h1 : 1 ≤ r) (hg : ∀ j : Nat, j < 2 ^ r → (S.get (1, (j : Int))).1 = meC) (hd : 1 ≤ d) (hd2 : d ≤ 16) (hp : p < 2 ^ d) :
    findM S meC p (d : Int) = if d % r = 0 then ((1, ((p % 2 ^ r : Nat) : Int)), 0) else ((0, 0), 6) := by
  have e : resolveM S meC p (d : Int) = if d % r = 0 then ((1, ((p % 2 ^ r : Nat) : Int)), 0, 0) else errS 6 := by
    unfold resolveM
    rw [if_neg (by rw [Int.toNat_natCast, Nat.div_eq_of_lt hp]; omega), if_neg (by simp), Int.toNat_natCast, res_loops hr h1 hg _ _ hd (by omega)]
  unfold findM
  rw [e]
  by_cases h : d % r = 0
  · simp [h]
  · simp [h, errS]

theorem levels {S : StoreM} {a b g h i k : Nat} (ha : S.radix 1 = (a : Int)) (hb : S.radix 2 = (b : Int)) (ha1 : 1 ≤ a) (hb1 : 1 ≤ b) (ha3 : a ≤ 3) (hb3 : b ≤ 3) (hg : g < 8) (hh : h < 4) (hi : i < 2 ^ a) (hk : k < 2 ^ b)
    (h1 : (S.get (1, (i : Int))).1 = ⟨2, 2, 0, 0, h, (2 : Nat)⟩) :
    findM S ⟨2, 1, 0, 0, g, (3 : Nat)⟩ ((g * 2 ^ a + i) * 2 ^ (2 + b) + h * 2 ^ b + k) ((3 + a + 2 + b : Nat) : Int) = ((2, (k : Int)), 0)
    ∧ resolveM S ⟨2, 1, 0, 0, g, (3 : Nat)⟩ (g * 2 ^ a + i) ((3 + a : Nat) : Int) = ((1, (i : Int)), 0, 0)
    ∧ ((g * 2 ^ a + i) * 2 ^ (2 + b) + h * 2 ^ b + k) / 2 ^ (2 + b) = g * 2 ^ a + i := by
  have hpa := Nat.two_pow_pos a
  have hpb := Nat.two_pow_pos b
  have hi' : (g * 2 ^ a + i) / 2 ^ a = g := by rw [Nat.mul_comm, Nat.mul_add_div hpa, Nat.div_eq_of_lt hi, Nat.add_zero]
  have him : (g * 2 ^ a + i) % 2 ^ a = i := by rw [Nat.mul_comm, Nat.mul_add_mod, Nat.mod_eq_of_lt hi]
  have hgi : g * 2 ^ a + i < 2 ^ (3 + a) := by
    have : (g + 1) * 2 ^ a ≤ 8 * 2 ^ a := Nat.mul_le_mul_right _ hg
    rw [Nat.pow_add]; rw [Nat.add_mul] at this; omega
  obtain ⟨q, hq⟩ : ∃ q, q = g * 2 ^ a + i := ⟨_, rfl⟩
  have hP : q * 2 ^ (2 + b) + h * 2 ^ b + k = (q * 4 + h) * 2 ^ b + k := by rw [Nat.pow_add, Nat.add_mul, Nat.mul_assoc]
  have d1 : ((q * 4 + h) * 2 ^ b + k) / 2 ^ b = q * 4 + h := by rw [Nat.mul_comm, Nat.mul_add_div hpb, Nat.div_eq_of_lt hk, Nat.add_zero]
  have d2 : ((q * 4 + h) * 2 ^ b + k) / 2 ^ (2 + b) = q := by rw [Nat.add_comm 2 b, Nat.pow_add, ← Nat.div_div_eq_div_mul, d1]; omega
  have dm : ((q * 4 + h) * 2 ^ b + k) % 2 ^ b = k := by rw [Nat.mul_comm, Nat.mul_add_mod, Nat.mod_eq_of_lt hk]
  have hPl : (q * 4 + h) * 2 ^ b + k < 2 ^ (3 + a + 2 + b) := by
    have h2 : q * 4 + h + 1 ≤ 2 ^ (3 + a) * 4 := by rw [hq]; omega
    have : (q * 4 + h + 1) * 2 ^ b ≤ 2 ^ (3 + a) * 4 * 2 ^ b := Nat.mul_le_mul_right _ h2
    rw [Nat.pow_add, Nat.pow_add (m := 3 + a) (n := 2)]; rw [Nat.add_mul] at this; simp only [show (2 : Nat) ^ 2 = 4 from rfl]; omega
  rw [← hq] at hi' him hgi ⊢
  rw [hP]
  refine ⟨?_, ?_, d2⟩
  · have e : resolveM S ⟨2, 1, 0, 0, g, (3 : Nat)⟩ ((q * 4 + h) * 2 ^ b + k) ((3 + a + 2 + b : Nat) : Int) = ((2, (k : Int)), 0, 0) := by
      unfold resolveM
      rw [if_neg (by rw [Int.toNat_natCast, Nat.div_eq_of_lt hPl]; omega), if_neg (by simp), Int.toNat_natCast]
      have s1 := @res_step S ((q * 4 + h) * 2 ^ b + k) (3 + a + 2 + b) 3 a (2 + b) g i 1 ha ha1
        (by rw [Nat.add_comm a, Nat.pow_add, ← Nat.div_div_eq_div_mul, d2, hi']; exact Nat.mod_eq_of_lt hg) (by rw [d2, him])
      have s2 := @res_step S ((q * 4 + h) * 2 ^ b + k) (3 + a + 1 + b) 2 b 0 h k 2 hb hb1
        (by rw [Nat.add_zero, d1]; omega) (by rw [Nat.pow_zero, Nat.div_one, dm])
      rw [if_pos (.inl rfl)] at s2
      rw [h1, if_neg (by rintro (h' | h'); omega; exact h' rfl)] at s1
      rw [show 3 + a + 2 + b = 3 + a + (2 + b) by omega] at s1 ⊢
      rw [s1, show 3 + a + (2 + b) = 3 + a + 1 + b + 1 by omega]
      exact s2
    unfold findM
    rw [e]; rfl
  · unfold resolveM
    rw [if_neg (by rw [Int.toNat_natCast, Nat.div_eq_of_lt hgi]; omega), if_neg (by simp), Int.toNat_natCast]
    have s1 := @res_step S q (3 + a) 3 a 0 g i 1 ha ha1 (by rw [Nat.add_zero, hi']; exact Nat.mod_eq_of_lt hg) (by rw [Nat.pow_zero, Nat.div_one, him])
    rw [if_pos (.inl rfl)] at s1
    exact s1

theorem shw1 {k : Nat} (hk : k < 63) : IntKind.i64.wrap (1 * 2 ^ (min (k : Int).toNat 64)) = ((2 ^ k : Nat) : Int) := by
  rw [show min (k : Int).toNat 64 = k by omega, Int.one_mul]
  have : 2 ^ k < 2 ^ 63 := Nat.pow_lt_pow_right (by omega) hk
  exact w64n (by norm_cast) this
theorem check_node {h : Nat} (hh : h < 4) : checkM ⟨2, 2, 0, 0, h, (2 : Nat)⟩ = 0 := by
  match h, hh with
  | 0, _ => decide
  | 1, _ => decide
  | 2, _ => decide
  | 3, _ => decide

end Go.Proofs.Ytpoamckpdpkpoaa
