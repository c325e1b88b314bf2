/-
  No cell of these rows narrows 'for every input' (looked for: loops, veiled, ifaces, maps, wideKeys, modest, calm, conditions, laid).
  DERIVED. THE GIVEN ROWS OF THIS SEAT. 6 by the template 'for every input the law returns true; each argument reads behind the call as it read before'; 0 by the template 'total and deterministic' (their statements: YtipncceiekalfaaGreatTotals.lean).
  GIVEN WITH THE SEED: the statements are not yours to turn. If you find one false, say at which input.
  Laid BY PROGRAM, IN A SANDBOX (cutbox-rows.mjs): the forced cells as the released guide's own fill.sh prints them over the translation b5c650d08352226b… (all of the seat's roots in one cut). By AI agents, Wed Nov 11 2026. No macro, syntax, notation, axiom, sorry.
-/
import Derived.Test.YtipncceiekalfaaGreatChecked
import GoSem.Claim
import GoSem.ClaimJoined
import GoSem.ClaimMapViews
import Derived.JoinedTies
import Derived.KernelRfl
namespace Go.Proofs.YtipncceiekalfaaGreat
/- THE CELL 'sum', in the pinned program and in every row, IS THE sha256 OF THE DUMP (.gsa) THAT YtipncceiekalfaaGreatProg.lean LOADS. Nothing in Lean hashes anything: it is a label: what it is worth is what the hold of that sum in a sandbox is worth. -/
noncomputable def Tryz.pinned : Pinned := { name := "ytipncceiekalfaagreat", sum := "b5c650d08352226ba3c4aa7841dbe29668d75fde30a03ede566f5582fc6003df", checked := Tryz.checked }
namespace Rows
def none {H : Type} : Left H := { results := [], args := [] }

/-- 'donjonlaw24.KernelFaults': WHATEVER THE INPUT: true; the input reads as it did. -/
def kernelFaultsSpec : ChangeSpec := { name := "kernelFaults", fn := fun _ => fun
  | [d1, d2, d3] => { results := [.lit (.bool true)], args := [d1, d2, d3] }
  | _ => none }
def kernelFaultsRow : OpenClaim := { program := "ytipncceiekalfaagreat", sum := "b5c650d08352226ba3c4aa7841dbe29668d75fde30a03ede566f5582fc6003df", func := "donjon/donjonlaw24.KernelFaults", spec := "kernelFaults", unfollowed := true, recurses := true, plainKeys := false, apart := false }
def KernelFaultsSaid : Prop := kernelFaultsRow.holds Tryz.pinned (OpenSpec.ofChange kernelFaultsSpec)

/-- ITS FALSE NEIGHBOUR: 'it returns false'. Refute it at one input. -/
def kernelFaultsWrong : ChangeSpec := { name := "kernelFaults", fn := fun _ => fun
  | [d1, d2, d3] => { results := [.lit (.bool false)], args := [d1, d2, d3] }
  | _ => none }
def KernelFaultsWrongFalsely : Prop := kernelFaultsRow.holds Tryz.pinned (OpenSpec.ofChange kernelFaultsWrong)

/-- 'donjonlaw24.KernelCalls': WHATEVER THE INPUT: true; the input reads as it did. -/
def kernelCallsSpec : ChangeSpec := { name := "kernelCalls", fn := fun _ => fun
  | [d1, d2] => { results := [.lit (.bool true)], args := [d1, d2] }
  | _ => none }
def kernelCallsRow : OpenClaim := { program := "ytipncceiekalfaagreat", sum := "b5c650d08352226ba3c4aa7841dbe29668d75fde30a03ede566f5582fc6003df", func := "donjon/donjonlaw24.KernelCalls", spec := "kernelCalls", unfollowed := true, recurses := true, plainKeys := false, apart := false }
def KernelCallsSaid : Prop := kernelCallsRow.holds Tryz.pinned (OpenSpec.ofChange kernelCallsSpec)

/-- ITS FALSE NEIGHBOUR: 'it returns false'. Refute it at one input. -/
def kernelCallsWrong : ChangeSpec := { name := "kernelCalls", fn := fun _ => fun
  | [d1, d2] => { results := [.lit (.bool false)], args := [d1, d2] }
  | _ => none }
def KernelCallsWrongFalsely : Prop := kernelCallsRow.holds Tryz.pinned (OpenSpec.ofChange kernelCallsWrong)

/-- 'donjonlaw24.KernelSends': WHATEVER THE INPUT: true; the input reads as it did. -/
def kernelSendsSpec : ChangeSpec := { name := "kernelSends", fn := fun _ => fun
  | [d1, d2, d3, d4] => { results := [.lit (.bool true)], args := [d1, d2, d3, d4] }
  | _ => none }
def kernelSendsRow : OpenClaim := { program := "ytipncceiekalfaagreat", sum := "b5c650d08352226ba3c4aa7841dbe29668d75fde30a03ede566f5582fc6003df", func := "donjon/donjonlaw24.KernelSends", spec := "kernelSends", unfollowed := true, recurses := true, plainKeys := false, apart := false }
def KernelSendsSaid : Prop := kernelSendsRow.holds Tryz.pinned (OpenSpec.ofChange kernelSendsSpec)

/-- ITS FALSE NEIGHBOUR: 'it returns false'. Refute it at one input. -/
def kernelSendsWrong : ChangeSpec := { name := "kernelSends", fn := fun _ => fun
  | [d1, d2, d3, d4] => { results := [.lit (.bool false)], args := [d1, d2, d3, d4] }
  | _ => none }
def KernelSendsWrongFalsely : Prop := kernelSendsRow.holds Tryz.pinned (OpenSpec.ofChange kernelSendsWrong)

/-- 'donjonlaw24.KernelSignals': WHATEVER THE INPUT: true; the input reads as it did. -/
def kernelSignalsSpec : ChangeSpec := { name := "kernelSignals", fn := fun _ => fun
  | [d1, d2] => { results := [.lit (.bool true)], args := [d1, d2] }
  | _ => none }
def kernelSignalsRow : OpenClaim := { program := "ytipncceiekalfaagreat", sum := "b5c650d08352226ba3c4aa7841dbe29668d75fde30a03ede566f5582fc6003df", func := "donjon/donjonlaw24.KernelSignals", spec := "kernelSignals", unfollowed := true, recurses := true, plainKeys := false, apart := false }
def KernelSignalsSaid : Prop := kernelSignalsRow.holds Tryz.pinned (OpenSpec.ofChange kernelSignalsSpec)

/-- ITS FALSE NEIGHBOUR: 'it returns false'. Refute it at one input. -/
def kernelSignalsWrong : ChangeSpec := { name := "kernelSignals", fn := fun _ => fun
  | [d1, d2] => { results := [.lit (.bool false)], args := [d1, d2] }
  | _ => none }
def KernelSignalsWrongFalsely : Prop := kernelSignalsRow.holds Tryz.pinned (OpenSpec.ofChange kernelSignalsWrong)

/-- 'donjonlaw24.KernelRightless': WHATEVER THE INPUT: true; the input reads as it did. -/
def kernelRightlessSpec : ChangeSpec := { name := "kernelRightless", fn := fun _ => fun
  | [d1, d2, d3] => { results := [.lit (.bool true)], args := [d1, d2, d3] }
  | _ => none }
def kernelRightlessRow : OpenClaim := { program := "ytipncceiekalfaagreat", sum := "b5c650d08352226ba3c4aa7841dbe29668d75fde30a03ede566f5582fc6003df", func := "donjon/donjonlaw24.KernelRightless", spec := "kernelRightless", unfollowed := true, recurses := true, plainKeys := false, apart := false }
def KernelRightlessSaid : Prop := kernelRightlessRow.holds Tryz.pinned (OpenSpec.ofChange kernelRightlessSpec)

/-- ITS FALSE NEIGHBOUR: 'it returns false'. Refute it at one input. -/
def kernelRightlessWrong : ChangeSpec := { name := "kernelRightless", fn := fun _ => fun
  | [d1, d2, d3] => { results := [.lit (.bool false)], args := [d1, d2, d3] }
  | _ => none }
def KernelRightlessWrongFalsely : Prop := kernelRightlessRow.holds Tryz.pinned (OpenSpec.ofChange kernelRightlessWrong)

/-- 'donjonlaw24.KernelRight': WHATEVER THE INPUT: true; the input reads as it did. -/
def kernelRightSpec : ChangeSpec := { name := "kernelRight", fn := fun _ => fun
  | [d1, d2, d3] => { results := [.lit (.bool true)], args := [d1, d2, d3] }
  | _ => none }
def kernelRightRow : OpenClaim := { program := "ytipncceiekalfaagreat", sum := "b5c650d08352226ba3c4aa7841dbe29668d75fde30a03ede566f5582fc6003df", func := "donjon/donjonlaw24.KernelRight", spec := "kernelRight", unfollowed := true, recurses := true, plainKeys := false, apart := false }
def KernelRightSaid : Prop := kernelRightRow.holds Tryz.pinned (OpenSpec.ofChange kernelRightSpec)

/-- ITS FALSE NEIGHBOUR: 'it returns false'. Refute it at one input. -/
def kernelRightWrong : ChangeSpec := { name := "kernelRight", fn := fun _ => fun
  | [d1, d2, d3] => { results := [.lit (.bool false)], args := [d1, d2, d3] }
  | _ => none }
def KernelRightWrongFalsely : Prop := kernelRightRow.holds Tryz.pinned (OpenSpec.ofChange kernelRightWrong)

/- THE SECOND FORM. 'bulk': how many values and letters a reading holds, each counted each time it is reached (what is shared counts as often as it is met; a slice's spare places count too). A statement '..UptoSaid' is the law's where the arguments, and the package variables that the reading takes, are together of bulk at most 1048576: NARROWER than '..Said'. Prove '..Said' where nothing that the law and all that it calls make is longer than what came in: it says more and counts as full. Else prove '..UptoSaid'. A law counts once. -/
mutual
def uptoBulk {H : Type} : DataW H → Nat
  | .lit (.string bytes) => bytes.length + 1
  | .lit _ => 1
  | .nil => 1
  | .ptr d => uptoBulk d + 1
  | .slice elems spare => uptoBulkAll elems + uptoBulkAll spare + 1
  | .agg parts => uptoBulkAll parts + 1
  | .iface _ d => uptoBulk d + 1
  | .map entries => uptoBulkEntries entries + 1
  | .held _ => 1
def uptoBulkAll {H : Type} : List (DataW H) → Nat
  | [] => 0
  | d :: r => uptoBulk d + uptoBulkAll r
def uptoBulkEntries {H : Type} : List (Lit × DataW H) → Nat
  | [] => 0
  | x :: r => uptoBulkEntry x + uptoBulkEntries r
def uptoBulkEntry {H : Type} : Lit × DataW H → Nat
  | (.string bytes, d) => bytes.length + uptoBulk d + 1
  | (_, d) => uptoBulk d + 1
 end
def uptoSmall : (H : Type) → List (DataW H) → Bool := fun _ ds => decide (uptoBulkAll ds ≤ 1048576)
def OpenSpec.upto (s : _root_.Go.ChangeSpec) : _root_.Go.OpenSpec := { _root_.Go.OpenSpec.ofChange s with cond := some uptoSmall }

/-- 'donjonlaw24.KernelFaults', WHERE WHAT IT READS IS OF BULK AT MOST 1048576: true; the input reads as it did. -/
def kernelFaultsUptoRow : OpenClaim := { program := "ytipncceiekalfaagreat", sum := "b5c650d08352226ba3c4aa7841dbe29668d75fde30a03ede566f5582fc6003df", func := "donjon/donjonlaw24.KernelFaults", spec := "kernelFaults", unfollowed := true, recurses := true, plainKeys := false, apart := false, narrowed := true }
def KernelFaultsUptoSaid : Prop := kernelFaultsUptoRow.holds Tryz.pinned (OpenSpec.upto kernelFaultsSpec)

/-- 'donjonlaw24.KernelCalls', WHERE WHAT IT READS IS OF BULK AT MOST 1048576: true; the input reads as it did. -/
def kernelCallsUptoRow : OpenClaim := { program := "ytipncceiekalfaagreat", sum := "b5c650d08352226ba3c4aa7841dbe29668d75fde30a03ede566f5582fc6003df", func := "donjon/donjonlaw24.KernelCalls", spec := "kernelCalls", unfollowed := true, recurses := true, plainKeys := false, apart := false, narrowed := true }
def KernelCallsUptoSaid : Prop := kernelCallsUptoRow.holds Tryz.pinned (OpenSpec.upto kernelCallsSpec)

/-- 'donjonlaw24.KernelSends', WHERE WHAT IT READS IS OF BULK AT MOST 1048576: true; the input reads as it did. -/
def kernelSendsUptoRow : OpenClaim := { program := "ytipncceiekalfaagreat", sum := "b5c650d08352226ba3c4aa7841dbe29668d75fde30a03ede566f5582fc6003df", func := "donjon/donjonlaw24.KernelSends", spec := "kernelSends", unfollowed := true, recurses := true, plainKeys := false, apart := false, narrowed := true }
def KernelSendsUptoSaid : Prop := kernelSendsUptoRow.holds Tryz.pinned (OpenSpec.upto kernelSendsSpec)

/-- 'donjonlaw24.KernelSignals', WHERE WHAT IT READS IS OF BULK AT MOST 1048576: true; the input reads as it did. -/
def kernelSignalsUptoRow : OpenClaim := { program := "ytipncceiekalfaagreat", sum := "b5c650d08352226ba3c4aa7841dbe29668d75fde30a03ede566f5582fc6003df", func := "donjon/donjonlaw24.KernelSignals", spec := "kernelSignals", unfollowed := true, recurses := true, plainKeys := false, apart := false, narrowed := true }
def KernelSignalsUptoSaid : Prop := kernelSignalsUptoRow.holds Tryz.pinned (OpenSpec.upto kernelSignalsSpec)

/-- 'donjonlaw24.KernelRightless', WHERE WHAT IT READS IS OF BULK AT MOST 1048576: true; the input reads as it did. -/
def kernelRightlessUptoRow : OpenClaim := { program := "ytipncceiekalfaagreat", sum := "b5c650d08352226ba3c4aa7841dbe29668d75fde30a03ede566f5582fc6003df", func := "donjon/donjonlaw24.KernelRightless", spec := "kernelRightless", unfollowed := true, recurses := true, plainKeys := false, apart := false, narrowed := true }
def KernelRightlessUptoSaid : Prop := kernelRightlessUptoRow.holds Tryz.pinned (OpenSpec.upto kernelRightlessSpec)

/-- 'donjonlaw24.KernelRight', WHERE WHAT IT READS IS OF BULK AT MOST 1048576: true; the input reads as it did. -/
def kernelRightUptoRow : OpenClaim := { program := "ytipncceiekalfaagreat", sum := "b5c650d08352226ba3c4aa7841dbe29668d75fde30a03ede566f5582fc6003df", func := "donjon/donjonlaw24.KernelRight", spec := "kernelRight", unfollowed := true, recurses := true, plainKeys := false, apart := false, narrowed := true }
def KernelRightUptoSaid : Prop := kernelRightUptoRow.holds Tryz.pinned (OpenSpec.upto kernelRightSpec)

end Rows
end Go.Proofs.YtipncceiekalfaaGreat
