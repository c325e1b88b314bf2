/-
  No cell of these rows narrows 'for every input' (looked for: loops, veiled, ifaces, maps, wideKeys, modest, calm, conditions, laid).
  DERIVED. THE GIVEN ROWS OF THIS SEAT. 2 by the template 'for every input the law returns true; each argument reads behind the call as it read before'; 0 by the template 'total and deterministic' (their statements: YtdodfnjmkpgdbaaGreatTotals.lean).
  GIVEN WITH THE SEED: the statements are not yours to turn. If you find one false, say at which input.
  Laid BY PROGRAM, IN A SANDBOX (cutbox-rows.mjs): the forced cells as the released guide's own fill.sh prints them over the translation 43c698b89201e98b… (all of the seat's roots in one cut). By AI agents, Wed Nov 11 2026. No macro, syntax, notation, axiom, sorry.
-/
import Derived.Test.YtdodfnjmkpgdbaaGreatChecked
import GoSem.Claim
import GoSem.ClaimJoined
import GoSem.ClaimMapViews
import Derived.JoinedTies
import Derived.KernelRfl
namespace Go.Proofs.YtdodfnjmkpgdbaaGreat
/- THE CELL 'sum', in the pinned program and in every row, IS THE sha256 OF THE DUMP (.gsa) THAT YtdodfnjmkpgdbaaGreatProg.lean LOADS. Nothing in Lean hashes anything: it is a label: what it is worth is what the hold of that sum in a sandbox is worth. -/
noncomputable def Tryz.pinned : Pinned := { name := "ytdodfnjmkpgdbaagreat", sum := "43c698b89201e98b4fdf4edf63ab032b20572a5f25193f040f84ab21c4259087", checked := Tryz.checked }
namespace Rows
def none {H : Type} : Left H := { results := [], args := [] }

/-- 'donjonlaw10.MovesDoes': WHATEVER THE INPUT: true; the input reads as it did. -/
def movesDoesSpec : ChangeSpec := { name := "movesDoes", fn := fun _ => fun
  | [d1, d2, d3, d4] => { results := [.lit (.bool true)], args := [d1, d2, d3, d4] }
  | _ => none }
def movesDoesRow : OpenClaim := { program := "ytdodfnjmkpgdbaagreat", sum := "43c698b89201e98b4fdf4edf63ab032b20572a5f25193f040f84ab21c4259087", func := "donjon/donjonlaw10.MovesDoes", spec := "movesDoes", unfollowed := true, recurses := true, plainKeys := false, apart := false }
def MovesDoesSaid : Prop := movesDoesRow.holds Tryz.pinned (OpenSpec.ofChange movesDoesSpec)

/-- ITS FALSE NEIGHBOUR: 'it returns false'. Refute it at one input. -/
def movesDoesWrong : ChangeSpec := { name := "movesDoes", fn := fun _ => fun
  | [d1, d2, d3, d4] => { results := [.lit (.bool false)], args := [d1, d2, d3, d4] }
  | _ => none }
def MovesDoesWrongFalsely : Prop := movesDoesRow.holds Tryz.pinned (OpenSpec.ofChange movesDoesWrong)

/-- 'donjonlaw11.RevokeDoes': WHATEVER THE INPUT: true; the input reads as it did. -/
def revokeDoesSpec : ChangeSpec := { name := "revokeDoes", fn := fun _ => fun
  | [d] => { results := [.lit (.bool true)], args := [d] }
  | _ => none }
def revokeDoesRow : OpenClaim := { program := "ytdodfnjmkpgdbaagreat", sum := "43c698b89201e98b4fdf4edf63ab032b20572a5f25193f040f84ab21c4259087", func := "donjon/donjonlaw11.RevokeDoes", spec := "revokeDoes", unfollowed := true, recurses := true, plainKeys := false, apart := false }
def RevokeDoesSaid : Prop := revokeDoesRow.holds Tryz.pinned (OpenSpec.ofChange revokeDoesSpec)

/-- ITS FALSE NEIGHBOUR: 'it returns false'. Refute it at one input. -/
def revokeDoesWrong : ChangeSpec := { name := "revokeDoes", fn := fun _ => fun
  | [d] => { results := [.lit (.bool false)], args := [d] }
  | _ => none }
def RevokeDoesWrongFalsely : Prop := revokeDoesRow.holds Tryz.pinned (OpenSpec.ofChange revokeDoesWrong)

/- THE SECOND FORM. 'bulk': how many values and letters a reading holds, each counted each time it is reached (what is shared counts as often as it is met; a slice's spare places count too). A statement '..UptoSaid' is the law's where the arguments, and the package variables that the reading takes, are together of bulk at most 1048576: NARROWER than '..Said'. Prove '..Said' where nothing that the law and all that it calls make is longer than what came in: it says more and counts as full. Else prove '..UptoSaid'. A law counts once. -/
mutual
def uptoBulk {H : Type} : DataW H → Nat
  | .lit (.string bytes) => bytes.length + 1
  | .lit _ => 1
  | .nil => 1
  | .ptr d => uptoBulk d + 1
  | .slice elems spare => uptoBulkAll elems + uptoBulkAll spare + 1
  | .agg parts => uptoBulkAll parts + 1
  | .iface _ d => uptoBulk d + 1
  | .map entries => uptoBulkEntries entries + 1
  | .held _ => 1
def uptoBulkAll {H : Type} : List (DataW H) → Nat
  | [] => 0
  | d :: r => uptoBulk d + uptoBulkAll r
def uptoBulkEntries {H : Type} : List (Lit × DataW H) → Nat
  | [] => 0
  | x :: r => uptoBulkEntry x + uptoBulkEntries r
def uptoBulkEntry {H : Type} : Lit × DataW H → Nat
  | (.string bytes, d) => bytes.length + uptoBulk d + 1
  | (_, d) => uptoBulk d + 1
 end
def uptoSmall : (H : Type) → List (DataW H) → Bool := fun _ ds => decide (uptoBulkAll ds ≤ 1048576)
def OpenSpec.upto (s : _root_.Go.ChangeSpec) : _root_.Go.OpenSpec := { _root_.Go.OpenSpec.ofChange s with cond := some uptoSmall }

/-- 'donjonlaw10.MovesDoes', WHERE WHAT IT READS IS OF BULK AT MOST 1048576: true; the input reads as it did. -/
def movesDoesUptoRow : OpenClaim := { program := "ytdodfnjmkpgdbaagreat", sum := "43c698b89201e98b4fdf4edf63ab032b20572a5f25193f040f84ab21c4259087", func := "donjon/donjonlaw10.MovesDoes", spec := "movesDoes", unfollowed := true, recurses := true, plainKeys := false, apart := false, narrowed := true }
def MovesDoesUptoSaid : Prop := movesDoesUptoRow.holds Tryz.pinned (OpenSpec.upto movesDoesSpec)

/-- 'donjonlaw11.RevokeDoes', WHERE WHAT IT READS IS OF BULK AT MOST 1048576: true; the input reads as it did. -/
def revokeDoesUptoRow : OpenClaim := { program := "ytdodfnjmkpgdbaagreat", sum := "43c698b89201e98b4fdf4edf63ab032b20572a5f25193f040f84ab21c4259087", func := "donjon/donjonlaw11.RevokeDoes", spec := "revokeDoes", unfollowed := true, recurses := true, plainKeys := false, apart := false, narrowed := true }
def RevokeDoesUptoSaid : Prop := revokeDoesUptoRow.holds Tryz.pinned (OpenSpec.upto revokeDoesSpec)

end Rows
end Go.Proofs.YtdodfnjmkpgdbaaGreat
