/- How many slots the program's tree has. No condition. -/
import Derived.Test.YtpoamckpdpkpoaaW09g
set_option linter.unusedVariables false
namespace Go.Proofs.Ytpoamckpdpkpoaa
open Go.SL
theorem tr_fLen {n : Nat} {F : FoS} {tb : Nat} {L : Hp} (hH : TrF n F tb L) : TrR Try.prog 28 [trP tb] L (.int .i64 F.all.length) := by
  obtain ⟨T, G, hT, hL, hn, rfl⟩ := hH
  exact (tr_tLen tb L T hL).eq (by rw [hT.lenS])
end Go.Proofs.Ytpoamckpdpkpoaa
