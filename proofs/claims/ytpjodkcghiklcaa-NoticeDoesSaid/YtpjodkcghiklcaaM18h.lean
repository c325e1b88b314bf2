/- Layers 18 and 19: where endpoints and notices lie. No condition. -/
import Derived.Test.YtpjodkcghiklcaaM18
set_option linter.unusedVariables false
set_option linter.unusedSimpArgs false
namespace Go.Proofs.Ytpjodkcghiklcaa
open Go.SL

def EpH (S : Ep) (pb : Nat) (H : Hp) : Prop := ∃ lb v K, Slc 3 1 v S.l.length (intsC S.l) K ∧ H = (pb, .cells [.int .i64 S.w, .pointer (some ⟨lb, 0, none⟩)].toArray 97) :: (lb, .cells [v].toArray 87) :: K
def NtH (S : Nt) (nb : Nat) (H : Hp) : Prop := ∃ lb bb v u K J, Slc 3 1 v S.l.length (intsC S.l) K ∧ Slc 3 1 u S.b.length (intsC S.b) J ∧
  H = (nb, .cells [.int .u64 S.w, .pointer (some ⟨lb, 0, none⟩), .pointer (some ⟨bb, 0, none⟩)].toArray 102) :: (lb, .cells [v].toArray 87) :: (bb, .cells [u].toArray 87) :: (K ++ J)
theorem view_zero {G : Hp} {a : Option Addr} {n c : Nat} {l : List Int} (h : View G 1 (.slice a n c) n (intsC l)) (e : l = []) : View G 1 (.slice none 0 0) l.length (intsC l) := by subst e; exact View.nil _ _

end Go.Proofs.Ytpjodkcghiklcaa
