/- Layer 17 in plain Lean: a line of ids. No condition. -/
import Derived.Test.YtpjodkcghiklcabWS
set_option linter.unusedVariables false
set_option linter.unusedSimpArgs false
namespace Go.Proofs.Ytpjodkcghiklcab
open Go.SL

def rightM (x : Int) : Bool := decide (0 ≤ x) && decide (x < 64)
def pushE (l : List Int) (x : Int) : Int := if rightM x = false then 1 else if 0 ≤ idxM l x then 4 else 0
def pushL (l : List Int) (x : Int) : List Int := if pushE l x = 0 then l ++ [x] else l
def popV (l : List Int) : Int := l.headD 0
def popB (l : List Int) : Bool := !l.isEmpty
def remB (l : List Int) (x : Int) : Bool := decide (0 ≤ idxM l x)
def remL (l : List Int) (x : Int) : List Int := if 0 ≤ idxM l x then l.take (idxM l x).toNat ++ l.drop ((idxM l x).toNat + 1) else l
theorem pushL_ok {l : List Int} {x : Int} (h1 : rightM x = true) (h2 : ¬ 0 ≤ idxM l x) : pushE l x = 0 ∧ pushL l x = l ++ [x] := by
  have : pushE l x = 0 := by unfold pushE; rw [if_neg (by simp [h1]), if_neg h2]
  exact ⟨this, by unfold pushL; rw [if_pos this]⟩
theorem pushL_range {l : List Int} {x : Int} (h1 : rightM x = false) : pushE l x = 1 ∧ pushL l x = l := by
  have : pushE l x = 1 := by unfold pushE; rw [if_pos h1]
  exact ⟨this, by unfold pushL; rw [if_neg (by omega)]⟩
theorem pushL_twice {l : List Int} {x : Int} (h1 : rightM x = true) (h2 : 0 ≤ idxM l x) : pushE l x = 4 ∧ pushL l x = l := by
  have : pushE l x = 4 := by unfold pushE; rw [if_neg (by simp [h1]), if_pos h2]
  exact ⟨this, by unfold pushL; rw [if_neg (by omega)]⟩
theorem pushL_len (l : List Int) (x : Int) : (pushL l x).length ≤ l.length + 1 := by unfold pushL; split <;> simp
theorem remL_len (l : List Int) (x : Int) : (remL l x).length ≤ l.length := by
  unfold remL
  split
  · have := idx_lt l x
    simp; omega
  · exact Nat.le_refl _

end Go.Proofs.Ytpjodkcghiklcab
