/-
  No cell of these rows narrows 'for every input' (looked for: loops, veiled, ifaces, maps, wideKeys, modest, calm, conditions, laid).
  DERIVED. THE GIVEN ROWS OF THIS SEAT. 9 by the template 'for every input the law returns true; each argument reads behind the call as it read before'; 0 by the template 'total and deterministic' (their statements: YtdodfnjmkpgdbaaTotals.lean).
  GIVEN WITH THE SEED: the statements are not yours to turn. If you find one false, say at which input.
  Laid BY PROGRAM, IN A SANDBOX (cutbox-rows.mjs): the forced cells as the released guide's own fill.sh prints them over the translation 8bb2078bfe46be4b… (all of the seat's roots in one cut). By AI agents, Wed Nov 11 2026. No macro, syntax, notation, axiom, sorry.
-/
import Derived.Test.YtdodfnjmkpgdbaaChecked
import GoSem.Claim
import GoSem.ClaimJoined
import GoSem.ClaimMapViews
import Derived.JoinedTies
import Derived.KernelRfl
namespace Go.Proofs.Ytdodfnjmkpgdbaa
/- THE CELL 'sum', in the pinned program and in every row, IS THE sha256 OF THE DUMP (.gsa) THAT YtdodfnjmkpgdbaaProg.lean LOADS. Nothing in Lean hashes anything: it is a label: what it is worth is what the hold of that sum in a sandbox is worth. -/
noncomputable def Try.pinned : Pinned := { name := "ytdodfnjmkpgdbaa", sum := "8bb2078bfe46be4bbbd4dd70134b8ffc7492c2d19f246cd6575554cd2744226c", checked := Try.checked }
namespace Rows
def none {H : Type} : Left H := { results := [], args := [] }

/-- 'donjonlaw10.MovesBack': WHATEVER THE INPUT: true; the input reads as it did. -/
def movesBackSpec : ChangeSpec := { name := "movesBack", fn := fun _ => fun
  | [d1, d2, d3] => { results := [.lit (.bool true)], args := [d1, d2, d3] }
  | _ => none }
def movesBackRow : OpenClaim := { program := "ytdodfnjmkpgdbaa", sum := "8bb2078bfe46be4bbbd4dd70134b8ffc7492c2d19f246cd6575554cd2744226c", func := "donjon/donjonlaw10.MovesBack", spec := "movesBack", plainKeys := false, apart := false }
def MovesBackSaid : Prop := movesBackRow.holds Try.pinned (OpenSpec.ofChange movesBackSpec)

/-- ITS FALSE NEIGHBOUR: 'it returns false'. Refute it at one input. -/
def movesBackWrong : ChangeSpec := { name := "movesBack", fn := fun _ => fun
  | [d1, d2, d3] => { results := [.lit (.bool false)], args := [d1, d2, d3] }
  | _ => none }
def MovesBackWrongFalsely : Prop := movesBackRow.holds Try.pinned (OpenSpec.ofChange movesBackWrong)

/-- 'donjonlaw10.MovesRefused': WHATEVER THE INPUT: true; the input reads as it did. -/
def movesRefusedSpec : ChangeSpec := { name := "movesRefused", fn := fun _ => fun
  | [d] => { results := [.lit (.bool true)], args := [d] }
  | _ => none }
def movesRefusedRow : OpenClaim := { program := "ytdodfnjmkpgdbaa", sum := "8bb2078bfe46be4bbbd4dd70134b8ffc7492c2d19f246cd6575554cd2744226c", func := "donjon/donjonlaw10.MovesRefused", spec := "movesRefused", plainKeys := false, apart := false }
def MovesRefusedSaid : Prop := movesRefusedRow.holds Try.pinned (OpenSpec.ofChange movesRefusedSpec)

/-- ITS FALSE NEIGHBOUR: 'it returns false'. Refute it at one input. -/
def movesRefusedWrong : ChangeSpec := { name := "movesRefused", fn := fun _ => fun
  | [d] => { results := [.lit (.bool false)], args := [d] }
  | _ => none }
def MovesRefusedWrongFalsely : Prop := movesRefusedRow.holds Try.pinned (OpenSpec.ofChange movesRefusedWrong)

/-- 'donjonlaw10.MovesStep': WHATEVER THE INPUT: true; the input reads as it did. -/
def movesStepSpec : ChangeSpec := { name := "movesStep", fn := fun _ => fun
  | [d] => { results := [.lit (.bool true)], args := [d] }
  | _ => none }
def movesStepRow : OpenClaim := { program := "ytdodfnjmkpgdbaa", sum := "8bb2078bfe46be4bbbd4dd70134b8ffc7492c2d19f246cd6575554cd2744226c", func := "donjon/donjonlaw10.MovesStep", spec := "movesStep", plainKeys := false, apart := false }
def MovesStepSaid : Prop := movesStepRow.holds Try.pinned (OpenSpec.ofChange movesStepSpec)

/-- ITS FALSE NEIGHBOUR: 'it returns false'. Refute it at one input. -/
def movesStepWrong : ChangeSpec := { name := "movesStep", fn := fun _ => fun
  | [d] => { results := [.lit (.bool false)], args := [d] }
  | _ => none }
def MovesStepWrongFalsely : Prop := movesStepRow.holds Try.pinned (OpenSpec.ofChange movesStepWrong)

/-- 'donjonlaw10.MovesTakes': WHATEVER THE INPUT: true; the input reads as it did. -/
def movesTakesSpec : ChangeSpec := { name := "movesTakes", fn := fun _ => fun
  | [d1, d2] => { results := [.lit (.bool true)], args := [d1, d2] }
  | _ => none }
def movesTakesRow : OpenClaim := { program := "ytdodfnjmkpgdbaa", sum := "8bb2078bfe46be4bbbd4dd70134b8ffc7492c2d19f246cd6575554cd2744226c", func := "donjon/donjonlaw10.MovesTakes", spec := "movesTakes", plainKeys := false, apart := false }
def MovesTakesSaid : Prop := movesTakesRow.holds Try.pinned (OpenSpec.ofChange movesTakesSpec)

/-- ITS FALSE NEIGHBOUR: 'it returns false'. Refute it at one input. -/
def movesTakesWrong : ChangeSpec := { name := "movesTakes", fn := fun _ => fun
  | [d1, d2] => { results := [.lit (.bool false)], args := [d1, d2] }
  | _ => none }
def MovesTakesWrongFalsely : Prop := movesTakesRow.holds Try.pinned (OpenSpec.ofChange movesTakesWrong)

/-- 'donjonlaw11.RevokeChain': WHATEVER THE INPUT: true; the input reads as it did. -/
def revokeChainSpec : ChangeSpec := { name := "revokeChain", fn := fun _ => fun
  | [d1, d2, d3] => { results := [.lit (.bool true)], args := [d1, d2, d3] }
  | _ => none }
def revokeChainRow : OpenClaim := { program := "ytdodfnjmkpgdbaa", sum := "8bb2078bfe46be4bbbd4dd70134b8ffc7492c2d19f246cd6575554cd2744226c", func := "donjon/donjonlaw11.RevokeChain", spec := "revokeChain", unfollowed := true, recurses := true, plainKeys := false, apart := false }
def RevokeChainSaid : Prop := revokeChainRow.holds Try.pinned (OpenSpec.ofChange revokeChainSpec)

/-- ITS FALSE NEIGHBOUR: 'it returns false'. Refute it at one input. -/
def revokeChainWrong : ChangeSpec := { name := "revokeChain", fn := fun _ => fun
  | [d1, d2, d3] => { results := [.lit (.bool false)], args := [d1, d2, d3] }
  | _ => none }
def RevokeChainWrongFalsely : Prop := revokeChainRow.holds Try.pinned (OpenSpec.ofChange revokeChainWrong)

/-- 'donjonlaw11.RevokeCopies': WHATEVER THE INPUT: true; the input reads as it did. -/
def revokeCopiesSpec : ChangeSpec := { name := "revokeCopies", fn := fun _ => fun
  | [d1, d2] => { results := [.lit (.bool true)], args := [d1, d2] }
  | _ => none }
def revokeCopiesRow : OpenClaim := { program := "ytdodfnjmkpgdbaa", sum := "8bb2078bfe46be4bbbd4dd70134b8ffc7492c2d19f246cd6575554cd2744226c", func := "donjon/donjonlaw11.RevokeCopies", spec := "revokeCopies", unfollowed := true, recurses := true, plainKeys := false, apart := false }
def RevokeCopiesSaid : Prop := revokeCopiesRow.holds Try.pinned (OpenSpec.ofChange revokeCopiesSpec)

/-- ITS FALSE NEIGHBOUR: 'it returns false'. Refute it at one input. -/
def revokeCopiesWrong : ChangeSpec := { name := "revokeCopies", fn := fun _ => fun
  | [d1, d2] => { results := [.lit (.bool false)], args := [d1, d2] }
  | _ => none }
def RevokeCopiesWrongFalsely : Prop := revokeCopiesRow.holds Try.pinned (OpenSpec.ofChange revokeCopiesWrong)

/-- 'donjonlaw11.RevokeEnds': WHATEVER THE INPUT: true; the input reads as it did. -/
def revokeEndsSpec : ChangeSpec := { name := "revokeEnds", fn := fun _ => fun
  | [d1, d2, d3, d4] => { results := [.lit (.bool true)], args := [d1, d2, d3, d4] }
  | _ => none }
def revokeEndsRow : OpenClaim := { program := "ytdodfnjmkpgdbaa", sum := "8bb2078bfe46be4bbbd4dd70134b8ffc7492c2d19f246cd6575554cd2744226c", func := "donjon/donjonlaw11.RevokeEnds", spec := "revokeEnds", unfollowed := true, recurses := true, plainKeys := false, apart := false }
def RevokeEndsSaid : Prop := revokeEndsRow.holds Try.pinned (OpenSpec.ofChange revokeEndsSpec)

/-- ITS FALSE NEIGHBOUR: 'it returns false'. Refute it at one input. -/
def revokeEndsWrong : ChangeSpec := { name := "revokeEnds", fn := fun _ => fun
  | [d1, d2, d3, d4] => { results := [.lit (.bool false)], args := [d1, d2, d3, d4] }
  | _ => none }
def RevokeEndsWrongFalsely : Prop := revokeEndsRow.holds Try.pinned (OpenSpec.ofChange revokeEndsWrong)

/-- 'donjonlaw11.RevokeTells': WHATEVER THE INPUT: true; the input reads as it did. -/
def revokeTellsSpec : ChangeSpec := { name := "revokeTells", fn := fun _ => fun
  | [d1, d2, d3, d4] => { results := [.lit (.bool true)], args := [d1, d2, d3, d4] }
  | _ => none }
def revokeTellsRow : OpenClaim := { program := "ytdodfnjmkpgdbaa", sum := "8bb2078bfe46be4bbbd4dd70134b8ffc7492c2d19f246cd6575554cd2744226c", func := "donjon/donjonlaw11.RevokeTells", spec := "revokeTells", unfollowed := true, recurses := true, plainKeys := false, apart := false }
def RevokeTellsSaid : Prop := revokeTellsRow.holds Try.pinned (OpenSpec.ofChange revokeTellsSpec)

/-- ITS FALSE NEIGHBOUR: 'it returns false'. Refute it at one input. -/
def revokeTellsWrong : ChangeSpec := { name := "revokeTells", fn := fun _ => fun
  | [d1, d2, d3, d4] => { results := [.lit (.bool false)], args := [d1, d2, d3, d4] }
  | _ => none }
def RevokeTellsWrongFalsely : Prop := revokeTellsRow.holds Try.pinned (OpenSpec.ofChange revokeTellsWrong)

/-- 'donjonlaw11.RevokeOthers': WHATEVER THE INPUT: true; the input reads as it did. -/
def revokeOthersSpec : ChangeSpec := { name := "revokeOthers", fn := fun _ => fun
  | [d1, d2] => { results := [.lit (.bool true)], args := [d1, d2] }
  | _ => none }
def revokeOthersRow : OpenClaim := { program := "ytdodfnjmkpgdbaa", sum := "8bb2078bfe46be4bbbd4dd70134b8ffc7492c2d19f246cd6575554cd2744226c", func := "donjon/donjonlaw11.RevokeOthers", spec := "revokeOthers", unfollowed := true, recurses := true, plainKeys := false, apart := false }
def RevokeOthersSaid : Prop := revokeOthersRow.holds Try.pinned (OpenSpec.ofChange revokeOthersSpec)

/-- ITS FALSE NEIGHBOUR: 'it returns false'. Refute it at one input. -/
def revokeOthersWrong : ChangeSpec := { name := "revokeOthers", fn := fun _ => fun
  | [d1, d2] => { results := [.lit (.bool false)], args := [d1, d2] }
  | _ => none }
def RevokeOthersWrongFalsely : Prop := revokeOthersRow.holds Try.pinned (OpenSpec.ofChange revokeOthersWrong)

/- THE SECOND FORM. 'bulk': how many values and letters a reading holds, each counted each time it is reached (what is shared counts as often as it is met; a slice's spare places count too). A statement '..UptoSaid' is the law's where the arguments, and the package variables that the reading takes, are together of bulk at most 1048576: NARROWER than '..Said'. Prove '..Said' where nothing that the law and all that it calls make is longer than what came in: it says more and counts as full. Else prove '..UptoSaid'. A law counts once. -/
mutual
def uptoBulk {H : Type} : DataW H → Nat
  | .lit (.string bytes) => bytes.length + 1
  | .lit _ => 1
  | .nil => 1
  | .ptr d => uptoBulk d + 1
  | .slice elems spare => uptoBulkAll elems + uptoBulkAll spare + 1
  | .agg parts => uptoBulkAll parts + 1
  | .iface _ d => uptoBulk d + 1
  | .map entries => uptoBulkEntries entries + 1
  | .held _ => 1
def uptoBulkAll {H : Type} : List (DataW H) → Nat
  | [] => 0
  | d :: r => uptoBulk d + uptoBulkAll r
def uptoBulkEntries {H : Type} : List (Lit × DataW H) → Nat
  | [] => 0
  | x :: r => uptoBulkEntry x + uptoBulkEntries r
def uptoBulkEntry {H : Type} : Lit × DataW H → Nat
  | (.string bytes, d) => bytes.length + uptoBulk d + 1
  | (_, d) => uptoBulk d + 1
 end
def uptoSmall : (H : Type) → List (DataW H) → Bool := fun _ ds => decide (uptoBulkAll ds ≤ 1048576)
def OpenSpec.upto (s : _root_.Go.ChangeSpec) : _root_.Go.OpenSpec := { _root_.Go.OpenSpec.ofChange s with cond := some uptoSmall }

/-- 'donjonlaw10.MovesBack', WHERE WHAT IT READS IS OF BULK AT MOST 1048576: true; the input reads as it did. -/
def movesBackUptoRow : OpenClaim := { program := "ytdodfnjmkpgdbaa", sum := "8bb2078bfe46be4bbbd4dd70134b8ffc7492c2d19f246cd6575554cd2744226c", func := "donjon/donjonlaw10.MovesBack", spec := "movesBack", plainKeys := false, apart := false, narrowed := true }
def MovesBackUptoSaid : Prop := movesBackUptoRow.holds Try.pinned (OpenSpec.upto movesBackSpec)

/-- 'donjonlaw10.MovesRefused', WHERE WHAT IT READS IS OF BULK AT MOST 1048576: true; the input reads as it did. -/
def movesRefusedUptoRow : OpenClaim := { program := "ytdodfnjmkpgdbaa", sum := "8bb2078bfe46be4bbbd4dd70134b8ffc7492c2d19f246cd6575554cd2744226c", func := "donjon/donjonlaw10.MovesRefused", spec := "movesRefused", plainKeys := false, apart := false, narrowed := true }
def MovesRefusedUptoSaid : Prop := movesRefusedUptoRow.holds Try.pinned (OpenSpec.upto movesRefusedSpec)

/-- 'donjonlaw10.MovesStep', WHERE WHAT IT READS IS OF BULK AT MOST 1048576: true; the input reads as it did. -/
def movesStepUptoRow : OpenClaim := { program := "ytdodfnjmkpgdbaa", sum := "8bb2078bfe46be4bbbd4dd70134b8ffc7492c2d19f246cd6575554cd2744226c", func := "donjon/donjonlaw10.MovesStep", spec := "movesStep", plainKeys := false, apart := false, narrowed := true }
def MovesStepUptoSaid : Prop := movesStepUptoRow.holds Try.pinned (OpenSpec.upto movesStepSpec)

/-- 'donjonlaw10.MovesTakes', WHERE WHAT IT READS IS OF BULK AT MOST 1048576: true; the input reads as it did. -/
def movesTakesUptoRow : OpenClaim := { program := "ytdodfnjmkpgdbaa", sum := "8bb2078bfe46be4bbbd4dd70134b8ffc7492c2d19f246cd6575554cd2744226c", func := "donjon/donjonlaw10.MovesTakes", spec := "movesTakes", plainKeys := false, apart := false, narrowed := true }
def MovesTakesUptoSaid : Prop := movesTakesUptoRow.holds Try.pinned (OpenSpec.upto movesTakesSpec)

/-- 'donjonlaw11.RevokeChain', WHERE WHAT IT READS IS OF BULK AT MOST 1048576: true; the input reads as it did. -/
def revokeChainUptoRow : OpenClaim := { program := "ytdodfnjmkpgdbaa", sum := "8bb2078bfe46be4bbbd4dd70134b8ffc7492c2d19f246cd6575554cd2744226c", func := "donjon/donjonlaw11.RevokeChain", spec := "revokeChain", unfollowed := true, recurses := true, plainKeys := false, apart := false, narrowed := true }
def RevokeChainUptoSaid : Prop := revokeChainUptoRow.holds Try.pinned (OpenSpec.upto revokeChainSpec)

/-- 'donjonlaw11.RevokeCopies', WHERE WHAT IT READS IS OF BULK AT MOST 1048576: true; the input reads as it did. -/
def revokeCopiesUptoRow : OpenClaim := { program := "ytdodfnjmkpgdbaa", sum := "8bb2078bfe46be4bbbd4dd70134b8ffc7492c2d19f246cd6575554cd2744226c", func := "donjon/donjonlaw11.RevokeCopies", spec := "revokeCopies", unfollowed := true, recurses := true, plainKeys := false, apart := false, narrowed := true }
def RevokeCopiesUptoSaid : Prop := revokeCopiesUptoRow.holds Try.pinned (OpenSpec.upto revokeCopiesSpec)

/-- 'donjonlaw11.RevokeEnds', WHERE WHAT IT READS IS OF BULK AT MOST 1048576: true; the input reads as it did. -/
def revokeEndsUptoRow : OpenClaim := { program := "ytdodfnjmkpgdbaa", sum := "8bb2078bfe46be4bbbd4dd70134b8ffc7492c2d19f246cd6575554cd2744226c", func := "donjon/donjonlaw11.RevokeEnds", spec := "revokeEnds", unfollowed := true, recurses := true, plainKeys := false, apart := false, narrowed := true }
def RevokeEndsUptoSaid : Prop := revokeEndsUptoRow.holds Try.pinned (OpenSpec.upto revokeEndsSpec)

/-- 'donjonlaw11.RevokeTells', WHERE WHAT IT READS IS OF BULK AT MOST 1048576: true; the input reads as it did. -/
def revokeTellsUptoRow : OpenClaim := { program := "ytdodfnjmkpgdbaa", sum := "8bb2078bfe46be4bbbd4dd70134b8ffc7492c2d19f246cd6575554cd2744226c", func := "donjon/donjonlaw11.RevokeTells", spec := "revokeTells", unfollowed := true, recurses := true, plainKeys := false, apart := false, narrowed := true }
def RevokeTellsUptoSaid : Prop := revokeTellsUptoRow.holds Try.pinned (OpenSpec.upto revokeTellsSpec)

/-- 'donjonlaw11.RevokeOthers', WHERE WHAT IT READS IS OF BULK AT MOST 1048576: true; the input reads as it did. -/
def revokeOthersUptoRow : OpenClaim := { program := "ytdodfnjmkpgdbaa", sum := "8bb2078bfe46be4bbbd4dd70134b8ffc7492c2d19f246cd6575554cd2744226c", func := "donjon/donjonlaw11.RevokeOthers", spec := "revokeOthers", unfollowed := true, recurses := true, plainKeys := false, apart := false, narrowed := true }
def RevokeOthersUptoSaid : Prop := revokeOthersUptoRow.holds Try.pinned (OpenSpec.upto revokeOthersSpec)

end Rows
end Go.Proofs.Ytdodfnjmkpgdbaa
