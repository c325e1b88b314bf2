/-
  No cell of these rows narrows 'for every input' (looked for: loops, veiled, ifaces, maps, wideKeys, modest, calm, conditions, laid).
  DERIVED. THE GIVEN ROWS OF THIS SEAT. 5 by the template 'for every input the law returns true; each argument reads behind the call as it read before'; 0 by the template 'total and deterministic' (their statements: YtpjodkcghiklcabTotals.lean).
  GIVEN WITH THE SEED: the statements are not yours to turn. If you find one false, say at which input.
  Laid BY PROGRAM, IN A SANDBOX (cutbox-rows.mjs): the forced cells as the released guide's own fill.sh prints them over the translation aeb2caa8e13472da… (all of the seat's roots in one cut). By AI agents, Wed Nov 11 2026. No macro, syntax, notation, axiom, sorry.
-/
import Derived.Test.YtpjodkcghiklcabChecked
import GoSem.Claim
import GoSem.ClaimJoined
import GoSem.ClaimMapViews
import Derived.JoinedTies
import Derived.KernelRfl
namespace Go.Proofs.Ytpjodkcghiklcab
/- THE CELL 'sum', in the pinned program and in every row, IS THE sha256 OF THE DUMP (.gsa) THAT YtpjodkcghiklcabProg.lean LOADS. Nothing in Lean hashes anything: it is a label: what it is worth is what the hold of that sum in a sandbox is worth. -/
noncomputable def Try.pinned : Pinned := { name := "ytpjodkcghiklcab", sum := "aeb2caa8e13472daa8fdff52dc106205d6584a8cde3564400d60320e650fef1e", checked := Try.checked }
namespace Rows
def none {H : Type} : Left H := { results := [], args := [] }

/-- 'donjonlaw21.SchedShares': WHATEVER THE INPUT: true; the input reads as it did. -/
def schedSharesSpec : ChangeSpec := { name := "schedShares", fn := fun _ => fun
  | [d1, d2] => { results := [.lit (.bool true)], args := [d1, d2] }
  | _ => none }
def schedSharesRow : OpenClaim := { program := "ytpjodkcghiklcab", sum := "aeb2caa8e13472daa8fdff52dc106205d6584a8cde3564400d60320e650fef1e", func := "donjon/donjonlaw21.SchedShares", spec := "schedShares", apart := false }
def SchedSharesSaid : Prop := schedSharesRow.holds Try.pinned (OpenSpec.ofChange schedSharesSpec)

/-- ITS FALSE NEIGHBOUR: 'it returns false'. Refute it at one input. -/
def schedSharesWrong : ChangeSpec := { name := "schedShares", fn := fun _ => fun
  | [d1, d2] => { results := [.lit (.bool false)], args := [d1, d2] }
  | _ => none }
def SchedSharesWrongFalsely : Prop := schedSharesRow.holds Try.pinned (OpenSpec.ofChange schedSharesWrong)

/-- 'donjonlaw21.SchedPicks': WHATEVER THE INPUT: true; the input reads as it did. -/
def schedPicksSpec : ChangeSpec := { name := "schedPicks", fn := fun _ => fun
  | [d1, d2] => { results := [.lit (.bool true)], args := [d1, d2] }
  | _ => none }
def schedPicksRow : OpenClaim := { program := "ytpjodkcghiklcab", sum := "aeb2caa8e13472daa8fdff52dc106205d6584a8cde3564400d60320e650fef1e", func := "donjon/donjonlaw21.SchedPicks", spec := "schedPicks", apart := false }
def SchedPicksSaid : Prop := schedPicksRow.holds Try.pinned (OpenSpec.ofChange schedPicksSpec)

/-- ITS FALSE NEIGHBOUR: 'it returns false'. Refute it at one input. -/
def schedPicksWrong : ChangeSpec := { name := "schedPicks", fn := fun _ => fun
  | [d1, d2] => { results := [.lit (.bool false)], args := [d1, d2] }
  | _ => none }
def SchedPicksWrongFalsely : Prop := schedPicksRow.holds Try.pinned (OpenSpec.ofChange schedPicksWrong)

/-- 'donjonlaw21.SchedFixed': WHATEVER THE INPUT: true; the input reads as it did. -/
def schedFixedSpec : ChangeSpec := { name := "schedFixed", fn := fun _ => fun
  | [d1, d2, d3] => { results := [.lit (.bool true)], args := [d1, d2, d3] }
  | _ => none }
def schedFixedRow : OpenClaim := { program := "ytpjodkcghiklcab", sum := "aeb2caa8e13472daa8fdff52dc106205d6584a8cde3564400d60320e650fef1e", func := "donjon/donjonlaw21.SchedFixed", spec := "schedFixed", apart := false }
def SchedFixedSaid : Prop := schedFixedRow.holds Try.pinned (OpenSpec.ofChange schedFixedSpec)

/-- ITS FALSE NEIGHBOUR: 'it returns false'. Refute it at one input. -/
def schedFixedWrong : ChangeSpec := { name := "schedFixed", fn := fun _ => fun
  | [d1, d2, d3] => { results := [.lit (.bool false)], args := [d1, d2, d3] }
  | _ => none }
def SchedFixedWrongFalsely : Prop := schedFixedRow.holds Try.pinned (OpenSpec.ofChange schedFixedWrong)

/-- 'donjonlaw21.SchedOthers': WHATEVER THE INPUT: true; the input reads as it did. -/
def schedOthersSpec : ChangeSpec := { name := "schedOthers", fn := fun _ => fun
  | [d1, d2] => { results := [.lit (.bool true)], args := [d1, d2] }
  | _ => none }
def schedOthersRow : OpenClaim := { program := "ytpjodkcghiklcab", sum := "aeb2caa8e13472daa8fdff52dc106205d6584a8cde3564400d60320e650fef1e", func := "donjon/donjonlaw21.SchedOthers", spec := "schedOthers", apart := false }
def SchedOthersSaid : Prop := schedOthersRow.holds Try.pinned (OpenSpec.ofChange schedOthersSpec)

/-- ITS FALSE NEIGHBOUR: 'it returns false'. Refute it at one input. -/
def schedOthersWrong : ChangeSpec := { name := "schedOthers", fn := fun _ => fun
  | [d1, d2] => { results := [.lit (.bool false)], args := [d1, d2] }
  | _ => none }
def SchedOthersWrongFalsely : Prop := schedOthersRow.holds Try.pinned (OpenSpec.ofChange schedOthersWrong)

/-- 'donjonlaw21.SchedDoes': WHATEVER THE INPUT: true; the input reads as it did. -/
def schedDoesSpec : ChangeSpec := { name := "schedDoes", fn := fun _ => fun
  | [d1, d2] => { results := [.lit (.bool true)], args := [d1, d2] }
  | _ => none }
def schedDoesRow : OpenClaim := { program := "ytpjodkcghiklcab", sum := "aeb2caa8e13472daa8fdff52dc106205d6584a8cde3564400d60320e650fef1e", func := "donjon/donjonlaw21.SchedDoes", spec := "schedDoes", apart := false }
def SchedDoesSaid : Prop := schedDoesRow.holds Try.pinned (OpenSpec.ofChange schedDoesSpec)

/-- ITS FALSE NEIGHBOUR: 'it returns false'. Refute it at one input. -/
def schedDoesWrong : ChangeSpec := { name := "schedDoes", fn := fun _ => fun
  | [d1, d2] => { results := [.lit (.bool false)], args := [d1, d2] }
  | _ => none }
def SchedDoesWrongFalsely : Prop := schedDoesRow.holds Try.pinned (OpenSpec.ofChange schedDoesWrong)

/- THE SECOND FORM. 'bulk': how many values and letters a reading holds, each counted each time it is reached (what is shared counts as often as it is met; a slice's spare places count too). A statement '..UptoSaid' is the law's where the arguments, and the package variables that the reading takes, are together of bulk at most 1048576: NARROWER than '..Said'. Prove '..Said' where nothing that the law and all that it calls make is longer than what came in: it says more and counts as full. Else prove '..UptoSaid'. A law counts once. -/
mutual
def uptoBulk {H : Type} : DataW H → Nat
  | .lit (.string bytes) => bytes.length + 1
  | .lit _ => 1
  | .nil => 1
  | .ptr d => uptoBulk d + 1
  | .slice elems spare => uptoBulkAll elems + uptoBulkAll spare + 1
  | .agg parts => uptoBulkAll parts + 1
  | .iface _ d => uptoBulk d + 1
  | .map entries => uptoBulkEntries entries + 1
  | .held _ => 1
def uptoBulkAll {H : Type} : List (DataW H) → Nat
  | [] => 0
  | d :: r => uptoBulk d + uptoBulkAll r
def uptoBulkEntries {H : Type} : List (Lit × DataW H) → Nat
  | [] => 0
  | x :: r => uptoBulkEntry x + uptoBulkEntries r
def uptoBulkEntry {H : Type} : Lit × DataW H → Nat
  | (.string bytes, d) => bytes.length + uptoBulk d + 1
  | (_, d) => uptoBulk d + 1
 end
def uptoSmall : (H : Type) → List (DataW H) → Bool := fun _ ds => decide (uptoBulkAll ds ≤ 1048576)
def OpenSpec.upto (s : _root_.Go.ChangeSpec) : _root_.Go.OpenSpec := { _root_.Go.OpenSpec.ofChange s with cond := some uptoSmall }

/-- 'donjonlaw21.SchedShares', WHERE WHAT IT READS IS OF BULK AT MOST 1048576: true; the input reads as it did. -/
def schedSharesUptoRow : OpenClaim := { program := "ytpjodkcghiklcab", sum := "aeb2caa8e13472daa8fdff52dc106205d6584a8cde3564400d60320e650fef1e", func := "donjon/donjonlaw21.SchedShares", spec := "schedShares", apart := false, narrowed := true }
def SchedSharesUptoSaid : Prop := schedSharesUptoRow.holds Try.pinned (OpenSpec.upto schedSharesSpec)

/-- 'donjonlaw21.SchedPicks', WHERE WHAT IT READS IS OF BULK AT MOST 1048576: true; the input reads as it did. -/
def schedPicksUptoRow : OpenClaim := { program := "ytpjodkcghiklcab", sum := "aeb2caa8e13472daa8fdff52dc106205d6584a8cde3564400d60320e650fef1e", func := "donjon/donjonlaw21.SchedPicks", spec := "schedPicks", apart := false, narrowed := true }
def SchedPicksUptoSaid : Prop := schedPicksUptoRow.holds Try.pinned (OpenSpec.upto schedPicksSpec)

/-- 'donjonlaw21.SchedFixed', WHERE WHAT IT READS IS OF BULK AT MOST 1048576: true; the input reads as it did. -/
def schedFixedUptoRow : OpenClaim := { program := "ytpjodkcghiklcab", sum := "aeb2caa8e13472daa8fdff52dc106205d6584a8cde3564400d60320e650fef1e", func := "donjon/donjonlaw21.SchedFixed", spec := "schedFixed", apart := false, narrowed := true }
def SchedFixedUptoSaid : Prop := schedFixedUptoRow.holds Try.pinned (OpenSpec.upto schedFixedSpec)

/-- 'donjonlaw21.SchedOthers', WHERE WHAT IT READS IS OF BULK AT MOST 1048576: true; the input reads as it did. -/
def schedOthersUptoRow : OpenClaim := { program := "ytpjodkcghiklcab", sum := "aeb2caa8e13472daa8fdff52dc106205d6584a8cde3564400d60320e650fef1e", func := "donjon/donjonlaw21.SchedOthers", spec := "schedOthers", apart := false, narrowed := true }
def SchedOthersUptoSaid : Prop := schedOthersUptoRow.holds Try.pinned (OpenSpec.upto schedOthersSpec)

/-- 'donjonlaw21.SchedDoes', WHERE WHAT IT READS IS OF BULK AT MOST 1048576: true; the input reads as it did. -/
def schedDoesUptoRow : OpenClaim := { program := "ytpjodkcghiklcab", sum := "aeb2caa8e13472daa8fdff52dc106205d6584a8cde3564400d60320e650fef1e", func := "donjon/donjonlaw21.SchedDoes", spec := "schedDoes", apart := false, narrowed := true }
def SchedDoesUptoSaid : Prop := schedDoesUptoRow.holds Try.pinned (OpenSpec.upto schedDoesSpec)

end Rows
end Go.Proofs.Ytpjodkcghiklcab
