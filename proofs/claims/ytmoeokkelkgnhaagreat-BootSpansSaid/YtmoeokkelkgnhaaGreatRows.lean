/-
  No cell of these rows narrows 'for every input' (looked for: loops, veiled, ifaces, maps, wideKeys, modest, calm, conditions, laid).
  DERIVED. THE GIVEN ROWS OF THIS SEAT. 5 by the template 'for every input the law returns true; each argument reads behind the call as it read before'; 0 by the template 'total and deterministic' (their statements: YtmoeokkelkgnhaaGreatTotals.lean).
  GIVEN WITH THE SEED: the statements are not yours to turn. If you find one false, say at which input.
  Laid BY PROGRAM, IN A SANDBOX (cutbox-rows.mjs): the forced cells as the released guide's own fill.sh prints them over the translation b0df6c996a75b6bf… (all of the seat's roots in one cut). By AI agents, Wed Nov 11 2026. No macro, syntax, notation, axiom, sorry.
-/
import Derived.Test.YtmoeokkelkgnhaaGreatChecked
import GoSem.Claim
import GoSem.ClaimJoined
import GoSem.ClaimMapViews
import Derived.JoinedTies
import Derived.KernelRfl
namespace Go.Proofs.YtmoeokkelkgnhaaGreat
/- THE CELL 'sum', in the pinned program and in every row, IS THE sha256 OF THE DUMP (.gsa) THAT YtmoeokkelkgnhaaGreatProg.lean LOADS. Nothing in Lean hashes anything: it is a label: what it is worth is what the hold of that sum in a sandbox is worth. -/
noncomputable def Tryz.pinned : Pinned := { name := "ytmoeokkelkgnhaagreat", sum := "b0df6c996a75b6bf8939cde2864081d56346a536b86b17d1bc3f6dd78200222a", checked := Tryz.checked }
namespace Rows
def none {H : Type} : Left H := { results := [], args := [] }

/-- 'donjonlaw25.BootBack': WHATEVER THE INPUT: true; the input reads as it did. -/
def bootBackSpec : ChangeSpec := { name := "bootBack", fn := fun _ => fun
  | [d1, d2] => { results := [.lit (.bool true)], args := [d1, d2] }
  | _ => none }
def bootBackRow : OpenClaim := { program := "ytmoeokkelkgnhaagreat", sum := "b0df6c996a75b6bf8939cde2864081d56346a536b86b17d1bc3f6dd78200222a", func := "donjon/donjonlaw25.BootBack", spec := "bootBack", inPlace := ["internal/abi.NoEscape"], unfollowed := true, recurses := true, plainKeys := false, apart := false }
def BootBackSaid : Prop := bootBackRow.holds Tryz.pinned (OpenSpec.ofChange bootBackSpec)

/-- ITS FALSE NEIGHBOUR: 'it returns false'. Refute it at one input. -/
def bootBackWrong : ChangeSpec := { name := "bootBack", fn := fun _ => fun
  | [d1, d2] => { results := [.lit (.bool false)], args := [d1, d2] }
  | _ => none }
def BootBackWrongFalsely : Prop := bootBackRow.holds Tryz.pinned (OpenSpec.ofChange bootBackWrong)

/-- 'donjonlaw25.BootRoom': WHATEVER THE INPUT: true; the input reads as it did. -/
def bootRoomSpec : ChangeSpec := { name := "bootRoom", fn := fun _ => fun
  | [d1, d2, d3] => { results := [.lit (.bool true)], args := [d1, d2, d3] }
  | _ => none }
def bootRoomRow : OpenClaim := { program := "ytmoeokkelkgnhaagreat", sum := "b0df6c996a75b6bf8939cde2864081d56346a536b86b17d1bc3f6dd78200222a", func := "donjon/donjonlaw25.BootRoom", spec := "bootRoom", inPlace := ["internal/abi.NoEscape"], unfollowed := true, recurses := true, plainKeys := false, apart := false }
def BootRoomSaid : Prop := bootRoomRow.holds Tryz.pinned (OpenSpec.ofChange bootRoomSpec)

/-- ITS FALSE NEIGHBOUR: 'it returns false'. Refute it at one input. -/
def bootRoomWrong : ChangeSpec := { name := "bootRoom", fn := fun _ => fun
  | [d1, d2, d3] => { results := [.lit (.bool false)], args := [d1, d2, d3] }
  | _ => none }
def BootRoomWrongFalsely : Prop := bootRoomRow.holds Tryz.pinned (OpenSpec.ofChange bootRoomWrong)

/-- 'donjonlaw25.BootTwice': WHATEVER THE INPUT: true; the input reads as it did. -/
def bootTwiceSpec : ChangeSpec := { name := "bootTwice", fn := fun _ => fun
  | [d1, d2, d3] => { results := [.lit (.bool true)], args := [d1, d2, d3] }
  | _ => none }
def bootTwiceRow : OpenClaim := { program := "ytmoeokkelkgnhaagreat", sum := "b0df6c996a75b6bf8939cde2864081d56346a536b86b17d1bc3f6dd78200222a", func := "donjon/donjonlaw25.BootTwice", spec := "bootTwice", inPlace := ["internal/abi.NoEscape"], unfollowed := true, recurses := true, plainKeys := false, apart := false }
def BootTwiceSaid : Prop := bootTwiceRow.holds Tryz.pinned (OpenSpec.ofChange bootTwiceSpec)

/-- ITS FALSE NEIGHBOUR: 'it returns false'. Refute it at one input. -/
def bootTwiceWrong : ChangeSpec := { name := "bootTwice", fn := fun _ => fun
  | [d1, d2, d3] => { results := [.lit (.bool false)], args := [d1, d2, d3] }
  | _ => none }
def BootTwiceWrongFalsely : Prop := bootTwiceRow.holds Tryz.pinned (OpenSpec.ofChange bootTwiceWrong)

/-- 'donjonlaw25.BootSpans': WHATEVER THE INPUT: true; the input reads as it did. -/
def bootSpansSpec : ChangeSpec := { name := "bootSpans", fn := fun _ => fun
  | [d1, d2] => { results := [.lit (.bool true)], args := [d1, d2] }
  | _ => none }
def bootSpansRow : OpenClaim := { program := "ytmoeokkelkgnhaagreat", sum := "b0df6c996a75b6bf8939cde2864081d56346a536b86b17d1bc3f6dd78200222a", func := "donjon/donjonlaw25.BootSpans", spec := "bootSpans", inPlace := ["internal/abi.NoEscape"], unfollowed := true, recurses := true, plainKeys := false, apart := false }
def BootSpansSaid : Prop := bootSpansRow.holds Tryz.pinned (OpenSpec.ofChange bootSpansSpec)

/-- ITS FALSE NEIGHBOUR: 'it returns false'. Refute it at one input. -/
def bootSpansWrong : ChangeSpec := { name := "bootSpans", fn := fun _ => fun
  | [d1, d2] => { results := [.lit (.bool false)], args := [d1, d2] }
  | _ => none }
def BootSpansWrongFalsely : Prop := bootSpansRow.holds Tryz.pinned (OpenSpec.ofChange bootSpansWrong)

/-- 'donjonlaw25.BootIs': WHATEVER THE INPUT: true; the input reads as it did. -/
def bootIsSpec : ChangeSpec := { name := "bootIs", fn := fun _ => fun
  | [d1, d2] => { results := [.lit (.bool true)], args := [d1, d2] }
  | _ => none }
def bootIsRow : OpenClaim := { program := "ytmoeokkelkgnhaagreat", sum := "b0df6c996a75b6bf8939cde2864081d56346a536b86b17d1bc3f6dd78200222a", func := "donjon/donjonlaw25.BootIs", spec := "bootIs", inPlace := ["internal/abi.NoEscape"], unfollowed := true, recurses := true, plainKeys := false, apart := false }
def BootIsSaid : Prop := bootIsRow.holds Tryz.pinned (OpenSpec.ofChange bootIsSpec)

/-- ITS FALSE NEIGHBOUR: 'it returns false'. Refute it at one input. -/
def bootIsWrong : ChangeSpec := { name := "bootIs", fn := fun _ => fun
  | [d1, d2] => { results := [.lit (.bool false)], args := [d1, d2] }
  | _ => none }
def BootIsWrongFalsely : Prop := bootIsRow.holds Tryz.pinned (OpenSpec.ofChange bootIsWrong)

/- THE SECOND FORM. 'bulk': how many values and letters a reading holds, each counted each time it is reached (what is shared counts as often as it is met; a slice's spare places count too). A statement '..UptoSaid' is the law's where the arguments, and the package variables that the reading takes, are together of bulk at most 1048576: NARROWER than '..Said'. Prove '..Said' where nothing that the law and all that it calls make is longer than what came in: it says more and counts as full. Else prove '..UptoSaid'. A law counts once. -/
mutual
def uptoBulk {H : Type} : DataW H → Nat
  | .lit (.string bytes) => bytes.length + 1
  | .lit _ => 1
  | .nil => 1
  | .ptr d => uptoBulk d + 1
  | .slice elems spare => uptoBulkAll elems + uptoBulkAll spare + 1
  | .agg parts => uptoBulkAll parts + 1
  | .iface _ d => uptoBulk d + 1
  | .map entries => uptoBulkEntries entries + 1
  | .held _ => 1
def uptoBulkAll {H : Type} : List (DataW H) → Nat
  | [] => 0
  | d :: r => uptoBulk d + uptoBulkAll r
def uptoBulkEntries {H : Type} : List (Lit × DataW H) → Nat
  | [] => 0
  | x :: r => uptoBulkEntry x + uptoBulkEntries r
def uptoBulkEntry {H : Type} : Lit × DataW H → Nat
  | (.string bytes, d) => bytes.length + uptoBulk d + 1
  | (_, d) => uptoBulk d + 1
 end
def uptoSmall : (H : Type) → List (DataW H) → Bool := fun _ ds => decide (uptoBulkAll ds ≤ 1048576)
def OpenSpec.upto (s : _root_.Go.ChangeSpec) : _root_.Go.OpenSpec := { _root_.Go.OpenSpec.ofChange s with cond := some uptoSmall }

/-- 'donjonlaw25.BootBack', WHERE WHAT IT READS IS OF BULK AT MOST 1048576: true; the input reads as it did. -/
def bootBackUptoRow : OpenClaim := { program := "ytmoeokkelkgnhaagreat", sum := "b0df6c996a75b6bf8939cde2864081d56346a536b86b17d1bc3f6dd78200222a", func := "donjon/donjonlaw25.BootBack", spec := "bootBack", inPlace := ["internal/abi.NoEscape"], unfollowed := true, recurses := true, plainKeys := false, apart := false, narrowed := true }
def BootBackUptoSaid : Prop := bootBackUptoRow.holds Tryz.pinned (OpenSpec.upto bootBackSpec)

/-- 'donjonlaw25.BootRoom', WHERE WHAT IT READS IS OF BULK AT MOST 1048576: true; the input reads as it did. -/
def bootRoomUptoRow : OpenClaim := { program := "ytmoeokkelkgnhaagreat", sum := "b0df6c996a75b6bf8939cde2864081d56346a536b86b17d1bc3f6dd78200222a", func := "donjon/donjonlaw25.BootRoom", spec := "bootRoom", inPlace := ["internal/abi.NoEscape"], unfollowed := true, recurses := true, plainKeys := false, apart := false, narrowed := true }
def BootRoomUptoSaid : Prop := bootRoomUptoRow.holds Tryz.pinned (OpenSpec.upto bootRoomSpec)

/-- 'donjonlaw25.BootTwice', WHERE WHAT IT READS IS OF BULK AT MOST 1048576: true; the input reads as it did. -/
def bootTwiceUptoRow : OpenClaim := { program := "ytmoeokkelkgnhaagreat", sum := "b0df6c996a75b6bf8939cde2864081d56346a536b86b17d1bc3f6dd78200222a", func := "donjon/donjonlaw25.BootTwice", spec := "bootTwice", inPlace := ["internal/abi.NoEscape"], unfollowed := true, recurses := true, plainKeys := false, apart := false, narrowed := true }
def BootTwiceUptoSaid : Prop := bootTwiceUptoRow.holds Tryz.pinned (OpenSpec.upto bootTwiceSpec)

/-- 'donjonlaw25.BootSpans', WHERE WHAT IT READS IS OF BULK AT MOST 1048576: true; the input reads as it did. -/
def bootSpansUptoRow : OpenClaim := { program := "ytmoeokkelkgnhaagreat", sum := "b0df6c996a75b6bf8939cde2864081d56346a536b86b17d1bc3f6dd78200222a", func := "donjon/donjonlaw25.BootSpans", spec := "bootSpans", inPlace := ["internal/abi.NoEscape"], unfollowed := true, recurses := true, plainKeys := false, apart := false, narrowed := true }
def BootSpansUptoSaid : Prop := bootSpansUptoRow.holds Tryz.pinned (OpenSpec.upto bootSpansSpec)

/-- 'donjonlaw25.BootIs', WHERE WHAT IT READS IS OF BULK AT MOST 1048576: true; the input reads as it did. -/
def bootIsUptoRow : OpenClaim := { program := "ytmoeokkelkgnhaagreat", sum := "b0df6c996a75b6bf8939cde2864081d56346a536b86b17d1bc3f6dd78200222a", func := "donjon/donjonlaw25.BootIs", spec := "bootIs", inPlace := ["internal/abi.NoEscape"], unfollowed := true, recurses := true, plainKeys := false, apart := false, narrowed := true }
def BootIsUptoSaid : Prop := bootIsUptoRow.holds Tryz.pinned (OpenSpec.upto bootIsSpec)

end Rows
end Go.Proofs.YtmoeokkelkgnhaaGreat
