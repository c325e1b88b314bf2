/- The arguments of this seat's laws, from cells to plain data. No condition. -/
import Derived.Test.YtpoamckpdpkpoaaFL
import Derived.Test.YtpoamckpdpkpoaaM07
set_option linter.unusedVariables false
set_option linter.unusedSimpArgs false
namespace Go.Proofs.Ytpoamckpdpkpoaa
open Go.SL

theorem as_slot {cs : Array Value} (h : FlatV [some .i64, some .i64] cs.toList) : ∃ s : SlotM, cs = #[.int .i64 s.1, .int .i64 s.2] ∧ (fun _ => True) s := by
  obtain ⟨l⟩ := cs
  dsimp only at h
  obtain ⟨a, l, rfl, _, h⟩ := h.int
  obtain ⟨b, l, rfl, _, h⟩ := h.int
  obtain rfl := h.nil
  exact ⟨(a, b), rfl, trivial⟩
end Go.Proofs.Ytpoamckpdpkpoaa
