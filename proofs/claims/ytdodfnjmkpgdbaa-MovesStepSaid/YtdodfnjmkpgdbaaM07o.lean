/- The arguments of this seat's laws, from cells to plain data. No condition. -/
import Derived.Test.YtdodfnjmkpgdbaaFL
import Derived.Test.YtdodfnjmkpgdbaaM07e
set_option linter.unusedVariables false
set_option linter.unusedSimpArgs false
namespace Go.Proofs.Ytdodfnjmkpgdbaa
open Go.SL

theorem as_slot {cs : Array Value} (h : FlatV [some .i64, some .i64] cs.toList) : ∃ s : SlotM, cs = #[.int .i64 s.1, .int .i64 s.2] ∧ (fun _ => True) s := by
  obtain ⟨l⟩ := cs
  dsimp only at h
  obtain ⟨a, l, rfl, _, h⟩ := h.int
  obtain ⟨b, l, rfl, _, h⟩ := h.int
  obtain rfl := h.nil
  exact ⟨(a, b), rfl, trivial⟩
theorem as_op {x : List Value} (h : FlatV [some .i64, some .i64, some .i64, some .i64, some .i64, some .i64, some .i64, some .u64, some .u64, some .i64] x) : ∃ o : OpM, x = o.cells ∧ True := by
  obtain ⟨a0, l, rfl, _, h⟩ := h.int
  obtain ⟨a1, l, rfl, _, h⟩ := h.int
  obtain ⟨a2, l, rfl, _, h⟩ := h.int
  obtain ⟨a3, l, rfl, _, h⟩ := h.int
  obtain ⟨a4, l, rfl, _, h⟩ := h.int
  obtain ⟨a5, l, rfl, _, h⟩ := h.int
  obtain ⟨a6, l, rfl, _, h⟩ := h.int
  obtain ⟨a7, l, rfl, _, h⟩ := h.int
  obtain ⟨a8, l, rfl, _, h⟩ := h.int
  obtain ⟨a9, l, rfl, _, h⟩ := h.int
  obtain rfl := h.nil
  exact ⟨⟨a0, (a1, a2), a3, ⟨a4, a5, a6, a7, a8, a9⟩⟩, rfl, trivial⟩
theorem as_ops {els : List (List Value)} (h : ∀ x, x ∈ els → FlatV [some .i64, some .i64, some .i64, some .i64, some .i64, some .i64, some .i64, some .u64, some .u64, some .i64] x) : ∃ l : List OpM, els = l.map OpM.cells ∧ ∀ o, o ∈ l → (fun _ => True) o :=
  map_of fun x hx => as_op (h x hx)
end Go.Proofs.Ytdodfnjmkpgdbaa
