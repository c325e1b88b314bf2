/- The arguments of layer 17's laws, from cells to plain data. No condition. -/
import Derived.Test.YtpjodkcghiklcaaFL
import Derived.Test.YtpjodkcghiklcaaSLT
set_option linter.unusedVariables false
namespace Go.Proofs.Ytpjodkcghiklcaa
open Go.SL

structure OpL where
  kind : Int
  id : Int
  level : Int
abbrev OpL.cells (o : OpL) : List Value := [.int .i64 o.kind, .int .i64 o.id, .int .i64 o.level]
theorem as_opls {els : List (List Value)} (h : ∀ x, x ∈ els → FlatV [some .i64, some .i64, some .i64] x) : ∃ l : List OpL, els = l.map OpL.cells ∧ ∀ o, o ∈ l → (fun _ => True) o :=
  map_of fun x hx => by
    obtain ⟨a, l, rfl, _, h⟩ := (h x hx).int
    obtain ⟨b, l, rfl, _, h⟩ := h.int
    obtain ⟨c, l, rfl, _, h⟩ := h.int
    obtain rfl := h.nil
    exact ⟨⟨a, b, c⟩, rfl, trivial⟩

end Go.Proofs.Ytpjodkcghiklcaa
