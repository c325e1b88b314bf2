/- The arguments of this seat's laws, with the ranges of their numbers. No condition. -/
import Derived.Test.YtpoamckpdpkpoaaM07o
import Derived.Test.YtpoamckpdpkpoaaM07s
import Derived.Test.YtpoamckpdpkpoaaM08d
set_option linter.unusedVariables false
set_option linter.unusedSimpArgs false
namespace Go.Proofs.Ytpoamckpdpkpoaa
open Go.SL

theorem wf_i64 {n : Int} (h : (Lit.int .i64 n).wf = true) : i64R n := by
  have h1 : IntKind.i64.min = -9223372036854775808 := by decide
  have h2 : IntKind.i64.max = 9223372036854775807 := by decide
  simp [Lit.wf, h1, h2] at h
  unfold i64R; omega
theorem wf_u64 {n : Int} (h : (Lit.int .u64 n).wf = true) : u64R n := by
  have h1 : IntKind.u64.min = 0 := by decide
  have h2 : IntKind.u64.max = 18446744073709551615 := by decide
  simp [Lit.wf, h1, h2] at h
  unfold u64R; omega
theorem as_op7 {x : List Value} (h : FlatV [some .i64, some .i64, some .i64, some .i64, some .i64, some .i64, some .i64, some .u64, some .u64, some .i64] x) : ∃ o : OpM, x = o.cells ∧ o.c.Rg := by
  obtain ⟨a0, l, rfl, _, h⟩ := h.int
  obtain ⟨a1, l, rfl, _, h⟩ := h.int
  obtain ⟨a2, l, rfl, _, h⟩ := h.int
  obtain ⟨a3, l, rfl, _, h⟩ := h.int
  obtain ⟨a4, l, rfl, _, h⟩ := h.int
  obtain ⟨a5, l, rfl, _, h⟩ := h.int
  obtain ⟨a6, l, rfl, w6, h⟩ := h.int
  obtain ⟨a7, l, rfl, w7, h⟩ := h.int
  obtain ⟨a8, l, rfl, w8, h⟩ := h.int
  obtain ⟨a9, l, rfl, _, h⟩ := h.int
  obtain rfl := h.nil
  exact ⟨⟨a0, (a1, a2), a3, ⟨a4, a5, a6, a7, a8, a9⟩⟩, rfl, wf_i64 w6, wf_u64 w7, wf_u64 w8⟩
theorem as_ops7 {els : List (List Value)} (h : ∀ x, x ∈ els → FlatV [some .i64, some .i64, some .i64, some .i64, some .i64, some .i64, some .i64, some .u64, some .u64, some .i64] x) : ∃ l : List OpM, els = l.map OpM.cells ∧ ∀ o, o ∈ l → (fun o : OpM => o.c.Rg) o :=
  map_of fun x hx => as_op7 (h x hx)
theorem as_put7 {x : List Value} (h : FlatV [some .i64, some .i64, some .i64, some .i64, some .i64, some .u64, some .u64, some .i64] x) : ∃ o : PutM, x = o.cells ∧ o.c.Rg := by
  obtain ⟨a0, l, rfl, _, h⟩ := h.int
  obtain ⟨a1, l, rfl, _, h⟩ := h.int
  obtain ⟨a4, l, rfl, _, h⟩ := h.int
  obtain ⟨a5, l, rfl, _, h⟩ := h.int
  obtain ⟨a6, l, rfl, w6, h⟩ := h.int
  obtain ⟨a7, l, rfl, w7, h⟩ := h.int
  obtain ⟨a8, l, rfl, w8, h⟩ := h.int
  obtain ⟨a9, l, rfl, _, h⟩ := h.int
  obtain rfl := h.nil
  exact ⟨⟨(a0, a1), ⟨a4, a5, a6, a7, a8, a9⟩⟩, rfl, wf_i64 w6, wf_u64 w7, wf_u64 w8⟩
theorem as_puts7 {els : List (List Value)} (h : ∀ x, x ∈ els → FlatV [some .i64, some .i64, some .i64, some .i64, some .i64, some .u64, some .u64, some .i64] x) : ∃ l : List PutM, els = l.map PutM.cells ∧ ∀ o, o ∈ l → (fun o : PutM => o.c.Rg) o :=
  map_of fun x hx => as_put7 (h x hx)
theorem as_intz {els : List (List Value)} (h : ∀ x, x ∈ els → FlatV [some .i64] x) : ∃ l : List Int, els = l.map (fun x => [.int .i64 x]) ∧ ∀ o, o ∈ l → (fun _ => True) o :=
  map_of fun x hx => by
    obtain ⟨a, l, rfl, _, h⟩ := (h x hx).int
    obtain rfl := h.nil
    exact ⟨a, rfl, trivial⟩
theorem as_cap7 {cs : Array Value} (h : FlatV [some .i64, some .i64, some .i64, some .u64, some .u64, some .i64] cs.toList) : ∃ c : CapM, cs = c.cells.toArray ∧ (fun _ => True) c := by
  obtain ⟨l⟩ := cs
  dsimp only at h
  obtain ⟨a4, l, rfl, _, h⟩ := h.int
  obtain ⟨a5, l, rfl, _, h⟩ := h.int
  obtain ⟨a6, l, rfl, w6, h⟩ := h.int
  obtain ⟨a7, l, rfl, w7, h⟩ := h.int
  obtain ⟨a8, l, rfl, w8, h⟩ := h.int
  obtain ⟨a9, l, rfl, _, h⟩ := h.int
  obtain rfl := h.nil
  exact ⟨⟨a4, a5, a6, a7, a8, a9⟩, rfl, trivial⟩
end Go.Proofs.Ytpoamckpdpkpoaa
