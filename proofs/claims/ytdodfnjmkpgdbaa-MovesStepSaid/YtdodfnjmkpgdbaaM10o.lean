/- Layer 10: the acts of its laws, with the ranges of their numbers. No condition. -/
import Derived.Test.YtdodfnjmkpgdbaaM10g
set_option linter.unusedVariables false
set_option linter.unusedSimpArgs false
namespace Go.Proofs.Ytdodfnjmkpgdbaa
open Go.SL
theorem wfI {n : Int} (h : (Lit.int .i64 n).wf = true) : i64R n := by
  have h1 : IntKind.i64.min = -9223372036854775808 := by decide
  have h2 : IntKind.i64.max = 9223372036854775807 := by decide
  simp [Lit.wf, h1, h2] at h
  unfold i64R; omega
theorem wfU {n : Int} (h : (Lit.int .u64 n).wf = true) : u64R n := by
  have h1 : IntKind.u64.min = 0 := by decide
  have h2 : IntKind.u64.max = 18446744073709551615 := by decide
  simp [Lit.wf, h1, h2] at h
  unfold u64R; omega
structure OpC.Rg (o : OpC) : Prop where
  c : o.c.Rg
  rights : i64R o.rights
  badge : u64R o.badge
  guard : u64R o.guard
theorem as_opcR {x : List Value} (h : FlatV [some .i64, some .i64, some .i64, some .i64, some .i64, some .i64, some .i64, some .i64, some .i64, some .i64, some .u64, some .u64, some .i64, some .i64, some .i64, some .u64, some .u64, some .i64] x) : ∃ o : OpC, x = o.cells ∧ o.Rg := by
  obtain ⟨a0, l, rfl, _, h⟩ := h.int
  obtain ⟨a1, l, rfl, _, h⟩ := h.int
  obtain ⟨a2, l, rfl, _, h⟩ := h.int
  obtain ⟨a3, l, rfl, _, h⟩ := h.int
  obtain ⟨a4, l, rfl, _, h⟩ := h.int
  obtain ⟨a5, l, rfl, _, h⟩ := h.int
  obtain ⟨a6, l, rfl, _, h⟩ := h.int
  obtain ⟨a7, l, rfl, _, h⟩ := h.int
  obtain ⟨a8, l, rfl, _, h⟩ := h.int
  obtain ⟨a9, l, rfl, w9, h⟩ := h.int
  obtain ⟨a10, l, rfl, w10, h⟩ := h.int
  obtain ⟨a11, l, rfl, w11, h⟩ := h.int
  obtain ⟨a12, l, rfl, _, h⟩ := h.int
  obtain ⟨a13, l, rfl, _, h⟩ := h.int
  obtain ⟨a14, l, rfl, w14, h⟩ := h.int
  obtain ⟨a15, l, rfl, w15, h⟩ := h.int
  obtain ⟨a16, l, rfl, w16, h⟩ := h.int
  obtain ⟨a17, l, rfl, _, h⟩ := h.int
  obtain rfl := h.nil
  exact ⟨⟨a0, (a1, a2), (a3, a4), (a5, a6), ⟨a7, a8, a9, a10, a11, a12⟩, a13, a14, a15, a16, a17⟩, rfl, ⟨wfI w9, wfU w10, wfU w11⟩, wfI w14, wfU w15, wfU w16⟩
theorem as_opcsR {els : List (List Value)} (h : ∀ x, x ∈ els → FlatV [some .i64, some .i64, some .i64, some .i64, some .i64, some .i64, some .i64, some .i64, some .i64, some .i64, some .u64, some .u64, some .i64, some .i64, some .i64, some .u64, some .u64, some .i64] x) : ∃ l : List OpC, els = l.map OpC.cells ∧ ∀ o, o ∈ l → OpC.Rg o :=
  map_of fun x hx => as_opcR (h x hx)
end Go.Proofs.Ytdodfnjmkpgdbaa
