/- Layer 9: the acts of its laws, as plain data. No condition. -/
import Derived.Test.YtdodfnjmkpgdbaaFL
import Derived.Test.YtdodfnjmkpgdbaaM09g
set_option linter.unusedVariables false
set_option linter.unusedSimpArgs false
namespace Go.Proofs.Ytdodfnjmkpgdbaa
open Go.SL
structure OpT where
  kind : Int
  a : SlotM
  b : SlotM
abbrev OpT.cells (o : OpT) : List Value := [.int .i64 o.kind, .int .i64 o.a.1, .int .i64 o.a.2, .int .i64 o.b.1, .int .i64 o.b.2]
theorem as_opt {x : List Value} (h : FlatV [some .i64, some .i64, some .i64, some .i64, some .i64] x) : ∃ o : OpT, x = o.cells ∧ True := by
  obtain ⟨a0, l, rfl, _, h⟩ := h.int
  obtain ⟨a1, l, rfl, _, h⟩ := h.int
  obtain ⟨a2, l, rfl, _, h⟩ := h.int
  obtain ⟨a3, l, rfl, _, h⟩ := h.int
  obtain ⟨a4, l, rfl, _, h⟩ := h.int
  obtain rfl := h.nil
  exact ⟨⟨a0, (a1, a2), (a3, a4)⟩, rfl, trivial⟩
theorem as_opts {els : List (List Value)} (h : ∀ x, x ∈ els → FlatV [some .i64, some .i64, some .i64, some .i64, some .i64] x) : ∃ l : List OpT, els = l.map OpT.cells ∧ ∀ o, o ∈ l → (fun _ => True) o :=
  map_of fun x hx => as_opt (h x hx)
/-- What an act leaves. -/
def actF (F : FoS) (o : OpT) : FoS := if o.kind = 0 then (ftRoot F o.a).2 else if o.kind = 1 then (ftChild F o.a o.b).2 else if o.kind = 2 then (ftDrop F o.a).2 else if o.kind = 3 then (ftMove F o.a o.b).2 else F
theorem sub_len' {α : Type} [DecidableEq α] : ∀ (f : Fo α) (x : α), (Fo.sub x f).all.length ≤ f.all.length
  | .nil, _ => Nat.le_refl _
  | .cons i c r, x => by
    simp only [Fo.sub, Fo.all, List.length_cons, List.length_append]
    split
    · omega
    · split
      · have := sub_len' c x; omega
      · have := sub_len' r x; omega
theorem roots_len' {α : Type} : ∀ f : Fo α, f.roots.length ≤ f.all.length
  | .nil => Nat.le_refl _
  | .cons i c r => by
    have := roots_len' r
    simp only [Fo.roots, Fo.all, List.length_cons, List.length_append]; omega
theorem ftKin_len (F : FoS) (s : SlotM) : (ftKin F s).length ≤ F.all.length := sub_len' F s
theorem ftKids_len (F : FoS) (s : SlotM) : (ftKids F s).length ≤ F.all.length := Nat.le_trans (roots_len' _) (sub_len' F s)
end Go.Proofs.Ytdodfnjmkpgdbaa
