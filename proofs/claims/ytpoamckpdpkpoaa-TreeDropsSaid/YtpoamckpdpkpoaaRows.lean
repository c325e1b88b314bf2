/-
  No cell of these rows narrows 'for every input' (looked for: loops, veiled, ifaces, maps, wideKeys, modest, calm, conditions, laid).
  DERIVED. THE GIVEN ROWS OF THIS SEAT. 11 by the template 'for every input the law returns true; each argument reads behind the call as it read before'; 0 by the template 'total and deterministic' (their statements: YtpoamckpdpkpoaaTotals.lean).
  GIVEN WITH THE SEED: the statements are not yours to turn. If you find one false, say at which input.
  Laid BY PROGRAM, IN A SANDBOX (cutbox-rows.mjs): the forced cells as the released guide's own fill.sh prints them over the translation 27030aa993128387… (all of the seat's roots in one cut). By AI agents, Wed Nov 11 2026. No macro, syntax, notation, axiom, sorry.
-/
import Derived.Test.YtpoamckpdpkpoaaChecked
import GoSem.Claim
import GoSem.ClaimJoined
import GoSem.ClaimMapViews
import Derived.JoinedTies
import Derived.KernelRfl
namespace Go.Proofs.Ytpoamckpdpkpoaa
/- THE CELL 'sum', in the pinned program and in every row, IS THE sha256 OF THE DUMP (.gsa) THAT YtpoamckpdpkpoaaProg.lean LOADS. Nothing in Lean hashes anything: it is a label: what it is worth is what the hold of that sum in a sandbox is worth. -/
noncomputable def Try.pinned : Pinned := { name := "ytpoamckpdpkpoaa", sum := "27030aa9931283875c3856c431a4132bc9bd3ac248d8bbe5e40b94ce7785b148", checked := Try.checked }
namespace Rows
def none {H : Type} : Left H := { results := [], args := [] }

/-- 'donjonlaw08.GuardLeft': WHATEVER THE INPUT: true; the input reads as it did. -/
def guardLeftSpec : ChangeSpec := { name := "guardLeft", fn := fun _ => fun
  | [d1, d2, d3, d4, d5] => { results := [.lit (.bool true)], args := [d1, d2, d3, d4, d5] }
  | _ => none }
def guardLeftRow : OpenClaim := { program := "ytpoamckpdpkpoaa", sum := "27030aa9931283875c3856c431a4132bc9bd3ac248d8bbe5e40b94ce7785b148", func := "donjon/donjonlaw08.GuardLeft", spec := "guardLeft", unfollowed := true, recurses := true, plainKeys := false, apart := false }
def GuardLeftSaid : Prop := guardLeftRow.holds Try.pinned (OpenSpec.ofChange guardLeftSpec)

/-- ITS FALSE NEIGHBOUR: 'it returns false'. Refute it at one input. -/
def guardLeftWrong : ChangeSpec := { name := "guardLeft", fn := fun _ => fun
  | [d1, d2, d3, d4, d5] => { results := [.lit (.bool false)], args := [d1, d2, d3, d4, d5] }
  | _ => none }
def GuardLeftWrongFalsely : Prop := guardLeftRow.holds Try.pinned (OpenSpec.ofChange guardLeftWrong)

/-- 'donjonlaw08.GuardWrong': WHATEVER THE INPUT: true; the input reads as it did. -/
def guardWrongSpec : ChangeSpec := { name := "guardWrong", fn := fun _ => fun
  | [d1, d2, d3, d4, d5] => { results := [.lit (.bool true)], args := [d1, d2, d3, d4, d5] }
  | _ => none }
def guardWrongRow : OpenClaim := { program := "ytpoamckpdpkpoaa", sum := "27030aa9931283875c3856c431a4132bc9bd3ac248d8bbe5e40b94ce7785b148", func := "donjon/donjonlaw08.GuardWrong", spec := "guardWrong", unfollowed := true, recurses := true, plainKeys := false, apart := false }
def GuardWrongSaid : Prop := guardWrongRow.holds Try.pinned (OpenSpec.ofChange guardWrongSpec)

/-- ITS FALSE NEIGHBOUR: 'it returns false'. Refute it at one input. -/
def guardWrongWrong : ChangeSpec := { name := "guardWrong", fn := fun _ => fun
  | [d1, d2, d3, d4, d5] => { results := [.lit (.bool false)], args := [d1, d2, d3, d4, d5] }
  | _ => none }
def GuardWrongWrongFalsely : Prop := guardWrongRow.holds Try.pinned (OpenSpec.ofChange guardWrongWrong)

/-- 'donjonlaw07.SlotsKeeps': WHATEVER THE INPUT: true; the input reads as it did. -/
def slotsKeepsSpec : ChangeSpec := { name := "slotsKeeps", fn := fun _ => fun
  | [d] => { results := [.lit (.bool true)], args := [d] }
  | _ => none }
def slotsKeepsRow : OpenClaim := { program := "ytpoamckpdpkpoaa", sum := "27030aa9931283875c3856c431a4132bc9bd3ac248d8bbe5e40b94ce7785b148", func := "donjon/donjonlaw07.SlotsKeeps", spec := "slotsKeeps", plainKeys := false, apart := false }
def SlotsKeepsSaid : Prop := slotsKeepsRow.holds Try.pinned (OpenSpec.ofChange slotsKeepsSpec)

/-- ITS FALSE NEIGHBOUR: 'it returns false'. Refute it at one input. -/
def slotsKeepsWrong : ChangeSpec := { name := "slotsKeeps", fn := fun _ => fun
  | [d] => { results := [.lit (.bool false)], args := [d] }
  | _ => none }
def SlotsKeepsWrongFalsely : Prop := slotsKeepsRow.holds Try.pinned (OpenSpec.ofChange slotsKeepsWrong)

/-- 'donjonlaw09.TreeKin': WHATEVER THE INPUT: true; the input reads as it did. -/
def treeKinSpec : ChangeSpec := { name := "treeKin", fn := fun _ => fun
  | [d] => { results := [.lit (.bool true)], args := [d] }
  | _ => none }
def treeKinRow : OpenClaim := { program := "ytpoamckpdpkpoaa", sum := "27030aa9931283875c3856c431a4132bc9bd3ac248d8bbe5e40b94ce7785b148", func := "donjon/donjonlaw09.TreeKin", spec := "treeKin", plainKeys := false, apart := false }
def TreeKinSaid : Prop := treeKinRow.holds Try.pinned (OpenSpec.ofChange treeKinSpec)

/-- ITS FALSE NEIGHBOUR: 'it returns false'. Refute it at one input. -/
def treeKinWrong : ChangeSpec := { name := "treeKin", fn := fun _ => fun
  | [d] => { results := [.lit (.bool false)], args := [d] }
  | _ => none }
def TreeKinWrongFalsely : Prop := treeKinRow.holds Try.pinned (OpenSpec.ofChange treeKinWrong)

/-- 'donjonlaw09.TreeDrops': WHATEVER THE INPUT: true; the input reads as it did. -/
def treeDropsSpec : ChangeSpec := { name := "treeDrops", fn := fun _ => fun
  | [d1, d2] => { results := [.lit (.bool true)], args := [d1, d2] }
  | _ => none }
def treeDropsRow : OpenClaim := { program := "ytpoamckpdpkpoaa", sum := "27030aa9931283875c3856c431a4132bc9bd3ac248d8bbe5e40b94ce7785b148", func := "donjon/donjonlaw09.TreeDrops", spec := "treeDrops", plainKeys := false, apart := false }
def TreeDropsSaid : Prop := treeDropsRow.holds Try.pinned (OpenSpec.ofChange treeDropsSpec)

/-- ITS FALSE NEIGHBOUR: 'it returns false'. Refute it at one input. -/
def treeDropsWrong : ChangeSpec := { name := "treeDrops", fn := fun _ => fun
  | [d1, d2] => { results := [.lit (.bool false)], args := [d1, d2] }
  | _ => none }
def TreeDropsWrongFalsely : Prop := treeDropsRow.holds Try.pinned (OpenSpec.ofChange treeDropsWrong)

/-- 'donjonlaw07.SlotsCounts': WHATEVER THE INPUT: true; the input reads as it did. -/
def slotsCountsSpec : ChangeSpec := { name := "slotsCounts", fn := fun _ => fun
  | [d] => { results := [.lit (.bool true)], args := [d] }
  | _ => none }
def slotsCountsRow : OpenClaim := { program := "ytpoamckpdpkpoaa", sum := "27030aa9931283875c3856c431a4132bc9bd3ac248d8bbe5e40b94ce7785b148", func := "donjon/donjonlaw07.SlotsCounts", spec := "slotsCounts", plainKeys := false, apart := false }
def SlotsCountsSaid : Prop := slotsCountsRow.holds Try.pinned (OpenSpec.ofChange slotsCountsSpec)

/-- ITS FALSE NEIGHBOUR: 'it returns false'. Refute it at one input. -/
def slotsCountsWrong : ChangeSpec := { name := "slotsCounts", fn := fun _ => fun
  | [d] => { results := [.lit (.bool false)], args := [d] }
  | _ => none }
def SlotsCountsWrongFalsely : Prop := slotsCountsRow.holds Try.pinned (OpenSpec.ofChange slotsCountsWrong)

/-- 'donjonlaw08.GuardLevels': WHATEVER THE INPUT: true; the input reads as it did. -/
def guardLevelsSpec : ChangeSpec := { name := "guardLevels", fn := fun _ => fun
  | [d1, d2, d3, d4, d5] => { results := [.lit (.bool true)], args := [d1, d2, d3, d4, d5] }
  | _ => none }
def guardLevelsRow : OpenClaim := { program := "ytpoamckpdpkpoaa", sum := "27030aa9931283875c3856c431a4132bc9bd3ac248d8bbe5e40b94ce7785b148", func := "donjon/donjonlaw08.GuardLevels", spec := "guardLevels", unfollowed := true, recurses := true, plainKeys := false, apart := false }
def GuardLevelsSaid : Prop := guardLevelsRow.holds Try.pinned (OpenSpec.ofChange guardLevelsSpec)

/-- ITS FALSE NEIGHBOUR: 'it returns false'. Refute it at one input. -/
def guardLevelsWrong : ChangeSpec := { name := "guardLevels", fn := fun _ => fun
  | [d1, d2, d3, d4, d5] => { results := [.lit (.bool false)], args := [d1, d2, d3, d4, d5] }
  | _ => none }
def GuardLevelsWrongFalsely : Prop := guardLevelsRow.holds Try.pinned (OpenSpec.ofChange guardLevelsWrong)

/-- 'donjonlaw08.GuardLoops': WHATEVER THE INPUT: true; the input reads as it did. -/
def guardLoopsSpec : ChangeSpec := { name := "guardLoops", fn := fun _ => fun
  | [d1, d2, d3] => { results := [.lit (.bool true)], args := [d1, d2, d3] }
  | _ => none }
def guardLoopsRow : OpenClaim := { program := "ytpoamckpdpkpoaa", sum := "27030aa9931283875c3856c431a4132bc9bd3ac248d8bbe5e40b94ce7785b148", func := "donjon/donjonlaw08.GuardLoops", spec := "guardLoops", unfollowed := true, recurses := true, plainKeys := false, apart := false }
def GuardLoopsSaid : Prop := guardLoopsRow.holds Try.pinned (OpenSpec.ofChange guardLoopsSpec)

/-- ITS FALSE NEIGHBOUR: 'it returns false'. Refute it at one input. -/
def guardLoopsWrong : ChangeSpec := { name := "guardLoops", fn := fun _ => fun
  | [d1, d2, d3] => { results := [.lit (.bool false)], args := [d1, d2, d3] }
  | _ => none }
def GuardLoopsWrongFalsely : Prop := guardLoopsRow.holds Try.pinned (OpenSpec.ofChange guardLoopsWrong)

/-- 'donjonlaw07.SlotsDoes': WHATEVER THE INPUT: true; the input reads as it did. -/
def slotsDoesSpec : ChangeSpec := { name := "slotsDoes", fn := fun _ => fun
  | [d] => { results := [.lit (.bool true)], args := [d] }
  | _ => none }
def slotsDoesRow : OpenClaim := { program := "ytpoamckpdpkpoaa", sum := "27030aa9931283875c3856c431a4132bc9bd3ac248d8bbe5e40b94ce7785b148", func := "donjon/donjonlaw07.SlotsDoes", spec := "slotsDoes", plainKeys := false, apart := false }
def SlotsDoesSaid : Prop := slotsDoesRow.holds Try.pinned (OpenSpec.ofChange slotsDoesSpec)

/-- ITS FALSE NEIGHBOUR: 'it returns false'. Refute it at one input. -/
def slotsDoesWrong : ChangeSpec := { name := "slotsDoes", fn := fun _ => fun
  | [d] => { results := [.lit (.bool false)], args := [d] }
  | _ => none }
def SlotsDoesWrongFalsely : Prop := slotsDoesRow.holds Try.pinned (OpenSpec.ofChange slotsDoesWrong)

/-- 'donjonlaw09.TreeDoes': WHATEVER THE INPUT: true; the input reads as it did. -/
def treeDoesSpec : ChangeSpec := { name := "treeDoes", fn := fun _ => fun
  | [d] => { results := [.lit (.bool true)], args := [d] }
  | _ => none }
def treeDoesRow : OpenClaim := { program := "ytpoamckpdpkpoaa", sum := "27030aa9931283875c3856c431a4132bc9bd3ac248d8bbe5e40b94ce7785b148", func := "donjon/donjonlaw09.TreeDoes", spec := "treeDoes", plainKeys := false, apart := false }
def TreeDoesSaid : Prop := treeDoesRow.holds Try.pinned (OpenSpec.ofChange treeDoesSpec)

/-- ITS FALSE NEIGHBOUR: 'it returns false'. Refute it at one input. -/
def treeDoesWrong : ChangeSpec := { name := "treeDoes", fn := fun _ => fun
  | [d] => { results := [.lit (.bool false)], args := [d] }
  | _ => none }
def TreeDoesWrongFalsely : Prop := treeDoesRow.holds Try.pinned (OpenSpec.ofChange treeDoesWrong)

/-- 'donjonlaw08.GuardFinds': WHATEVER THE INPUT: true; the input reads as it did. -/
def guardFindsSpec : ChangeSpec := { name := "guardFinds", fn := fun _ => fun
  | [d1, d2, d3, d4, d5] => { results := [.lit (.bool true)], args := [d1, d2, d3, d4, d5] }
  | _ => none }
def guardFindsRow : OpenClaim := { program := "ytpoamckpdpkpoaa", sum := "27030aa9931283875c3856c431a4132bc9bd3ac248d8bbe5e40b94ce7785b148", func := "donjon/donjonlaw08.GuardFinds", spec := "guardFinds", unfollowed := true, recurses := true, plainKeys := false, apart := false }
def GuardFindsSaid : Prop := guardFindsRow.holds Try.pinned (OpenSpec.ofChange guardFindsSpec)

/-- ITS FALSE NEIGHBOUR: 'it returns false'. Refute it at one input. -/
def guardFindsWrong : ChangeSpec := { name := "guardFinds", fn := fun _ => fun
  | [d1, d2, d3, d4, d5] => { results := [.lit (.bool false)], args := [d1, d2, d3, d4, d5] }
  | _ => none }
def GuardFindsWrongFalsely : Prop := guardFindsRow.holds Try.pinned (OpenSpec.ofChange guardFindsWrong)

/- THE SECOND FORM. 'bulk': how many values and letters a reading holds, each counted each time it is reached (what is shared counts as often as it is met; a slice's spare places count too). A statement '..UptoSaid' is the law's where the arguments, and the package variables that the reading takes, are together of bulk at most 1048576: NARROWER than '..Said'. Prove '..Said' where nothing that the law and all that it calls make is longer than what came in: it says more and counts as full. Else prove '..UptoSaid'. A law counts once. -/
mutual
def uptoBulk {H : Type} : DataW H → Nat
  | .lit (.string bytes) => bytes.length + 1
  | .lit _ => 1
  | .nil => 1
  | .ptr d => uptoBulk d + 1
  | .slice elems spare => uptoBulkAll elems + uptoBulkAll spare + 1
  | .agg parts => uptoBulkAll parts + 1
  | .iface _ d => uptoBulk d + 1
  | .map entries => uptoBulkEntries entries + 1
  | .held _ => 1
def uptoBulkAll {H : Type} : List (DataW H) → Nat
  | [] => 0
  | d :: r => uptoBulk d + uptoBulkAll r
def uptoBulkEntries {H : Type} : List (Lit × DataW H) → Nat
  | [] => 0
  | x :: r => uptoBulkEntry x + uptoBulkEntries r
def uptoBulkEntry {H : Type} : Lit × DataW H → Nat
  | (.string bytes, d) => bytes.length + uptoBulk d + 1
  | (_, d) => uptoBulk d + 1
 end
def uptoSmall : (H : Type) → List (DataW H) → Bool := fun _ ds => decide (uptoBulkAll ds ≤ 1048576)
def OpenSpec.upto (s : _root_.Go.ChangeSpec) : _root_.Go.OpenSpec := { _root_.Go.OpenSpec.ofChange s with cond := some uptoSmall }

/-- 'donjonlaw08.GuardLeft', WHERE WHAT IT READS IS OF BULK AT MOST 1048576: true; the input reads as it did. -/
def guardLeftUptoRow : OpenClaim := { program := "ytpoamckpdpkpoaa", sum := "27030aa9931283875c3856c431a4132bc9bd3ac248d8bbe5e40b94ce7785b148", func := "donjon/donjonlaw08.GuardLeft", spec := "guardLeft", unfollowed := true, recurses := true, plainKeys := false, apart := false, narrowed := true }
def GuardLeftUptoSaid : Prop := guardLeftUptoRow.holds Try.pinned (OpenSpec.upto guardLeftSpec)

/-- 'donjonlaw08.GuardWrong', WHERE WHAT IT READS IS OF BULK AT MOST 1048576: true; the input reads as it did. -/
def guardWrongUptoRow : OpenClaim := { program := "ytpoamckpdpkpoaa", sum := "27030aa9931283875c3856c431a4132bc9bd3ac248d8bbe5e40b94ce7785b148", func := "donjon/donjonlaw08.GuardWrong", spec := "guardWrong", unfollowed := true, recurses := true, plainKeys := false, apart := false, narrowed := true }
def GuardWrongUptoSaid : Prop := guardWrongUptoRow.holds Try.pinned (OpenSpec.upto guardWrongSpec)

/-- 'donjonlaw07.SlotsKeeps', WHERE WHAT IT READS IS OF BULK AT MOST 1048576: true; the input reads as it did. -/
def slotsKeepsUptoRow : OpenClaim := { program := "ytpoamckpdpkpoaa", sum := "27030aa9931283875c3856c431a4132bc9bd3ac248d8bbe5e40b94ce7785b148", func := "donjon/donjonlaw07.SlotsKeeps", spec := "slotsKeeps", plainKeys := false, apart := false, narrowed := true }
def SlotsKeepsUptoSaid : Prop := slotsKeepsUptoRow.holds Try.pinned (OpenSpec.upto slotsKeepsSpec)

/-- 'donjonlaw09.TreeKin', WHERE WHAT IT READS IS OF BULK AT MOST 1048576: true; the input reads as it did. -/
def treeKinUptoRow : OpenClaim := { program := "ytpoamckpdpkpoaa", sum := "27030aa9931283875c3856c431a4132bc9bd3ac248d8bbe5e40b94ce7785b148", func := "donjon/donjonlaw09.TreeKin", spec := "treeKin", plainKeys := false, apart := false, narrowed := true }
def TreeKinUptoSaid : Prop := treeKinUptoRow.holds Try.pinned (OpenSpec.upto treeKinSpec)

/-- 'donjonlaw09.TreeDrops', WHERE WHAT IT READS IS OF BULK AT MOST 1048576: true; the input reads as it did. -/
def treeDropsUptoRow : OpenClaim := { program := "ytpoamckpdpkpoaa", sum := "27030aa9931283875c3856c431a4132bc9bd3ac248d8bbe5e40b94ce7785b148", func := "donjon/donjonlaw09.TreeDrops", spec := "treeDrops", plainKeys := false, apart := false, narrowed := true }
def TreeDropsUptoSaid : Prop := treeDropsUptoRow.holds Try.pinned (OpenSpec.upto treeDropsSpec)

/-- 'donjonlaw07.SlotsCounts', WHERE WHAT IT READS IS OF BULK AT MOST 1048576: true; the input reads as it did. -/
def slotsCountsUptoRow : OpenClaim := { program := "ytpoamckpdpkpoaa", sum := "27030aa9931283875c3856c431a4132bc9bd3ac248d8bbe5e40b94ce7785b148", func := "donjon/donjonlaw07.SlotsCounts", spec := "slotsCounts", plainKeys := false, apart := false, narrowed := true }
def SlotsCountsUptoSaid : Prop := slotsCountsUptoRow.holds Try.pinned (OpenSpec.upto slotsCountsSpec)

/-- 'donjonlaw08.GuardLevels', WHERE WHAT IT READS IS OF BULK AT MOST 1048576: true; the input reads as it did. -/
def guardLevelsUptoRow : OpenClaim := { program := "ytpoamckpdpkpoaa", sum := "27030aa9931283875c3856c431a4132bc9bd3ac248d8bbe5e40b94ce7785b148", func := "donjon/donjonlaw08.GuardLevels", spec := "guardLevels", unfollowed := true, recurses := true, plainKeys := false, apart := false, narrowed := true }
def GuardLevelsUptoSaid : Prop := guardLevelsUptoRow.holds Try.pinned (OpenSpec.upto guardLevelsSpec)

/-- 'donjonlaw08.GuardLoops', WHERE WHAT IT READS IS OF BULK AT MOST 1048576: true; the input reads as it did. -/
def guardLoopsUptoRow : OpenClaim := { program := "ytpoamckpdpkpoaa", sum := "27030aa9931283875c3856c431a4132bc9bd3ac248d8bbe5e40b94ce7785b148", func := "donjon/donjonlaw08.GuardLoops", spec := "guardLoops", unfollowed := true, recurses := true, plainKeys := false, apart := false, narrowed := true }
def GuardLoopsUptoSaid : Prop := guardLoopsUptoRow.holds Try.pinned (OpenSpec.upto guardLoopsSpec)

/-- 'donjonlaw07.SlotsDoes', WHERE WHAT IT READS IS OF BULK AT MOST 1048576: true; the input reads as it did. -/
def slotsDoesUptoRow : OpenClaim := { program := "ytpoamckpdpkpoaa", sum := "27030aa9931283875c3856c431a4132bc9bd3ac248d8bbe5e40b94ce7785b148", func := "donjon/donjonlaw07.SlotsDoes", spec := "slotsDoes", plainKeys := false, apart := false, narrowed := true }
def SlotsDoesUptoSaid : Prop := slotsDoesUptoRow.holds Try.pinned (OpenSpec.upto slotsDoesSpec)

/-- 'donjonlaw09.TreeDoes', WHERE WHAT IT READS IS OF BULK AT MOST 1048576: true; the input reads as it did. -/
def treeDoesUptoRow : OpenClaim := { program := "ytpoamckpdpkpoaa", sum := "27030aa9931283875c3856c431a4132bc9bd3ac248d8bbe5e40b94ce7785b148", func := "donjon/donjonlaw09.TreeDoes", spec := "treeDoes", plainKeys := false, apart := false, narrowed := true }
def TreeDoesUptoSaid : Prop := treeDoesUptoRow.holds Try.pinned (OpenSpec.upto treeDoesSpec)

/-- 'donjonlaw08.GuardFinds', WHERE WHAT IT READS IS OF BULK AT MOST 1048576: true; the input reads as it did. -/
def guardFindsUptoRow : OpenClaim := { program := "ytpoamckpdpkpoaa", sum := "27030aa9931283875c3856c431a4132bc9bd3ac248d8bbe5e40b94ce7785b148", func := "donjon/donjonlaw08.GuardFinds", spec := "guardFinds", unfollowed := true, recurses := true, plainKeys := false, apart := false, narrowed := true }
def GuardFindsUptoSaid : Prop := guardFindsUptoRow.holds Try.pinned (OpenSpec.upto guardFindsSpec)

end Rows
end Go.Proofs.Ytpoamckpdpkpoaa
