/-
  No cell of these rows narrows 'for every input' (looked for: loops, veiled, ifaces, maps, wideKeys, modest, calm, conditions, laid).
  DERIVED. THE GIVEN ROWS OF THIS SEAT. 12 by the template 'for every input the law returns true; each argument reads behind the call as it read before'; 0 by the template 'total and deterministic' (their statements: YtpjodkcghiklcaaTotals.lean).
  GIVEN WITH THE SEED: the statements are not yours to turn. If you find one false, say at which input.
  Laid BY PROGRAM, IN A SANDBOX (cutbox-rows.mjs): the forced cells as the released guide's own fill.sh prints them over the translation d1dc22fb1a8e2c5f… (all of the seat's roots in one cut). By AI agents, Wed Nov 11 2026. No macro, syntax, notation, axiom, sorry.
-/
import Derived.Test.YtpjodkcghiklcaaChecked
import GoSem.Claim
import GoSem.ClaimJoined
import GoSem.ClaimMapViews
import Derived.JoinedTies
import Derived.KernelRfl
namespace Go.Proofs.Ytpjodkcghiklcaa
/- THE CELL 'sum', in the pinned program and in every row, IS THE sha256 OF THE DUMP (.gsa) THAT YtpjodkcghiklcaaProg.lean LOADS. Nothing in Lean hashes anything: it is a label: what it is worth is what the hold of that sum in a sandbox is worth. -/
noncomputable def Try.pinned : Pinned := { name := "ytpjodkcghiklcaa", sum := "d1dc22fb1a8e2c5fc0c40ac414d7c0e0d0069933d94af003de89f0bdc5b398ac", checked := Try.checked }
namespace Rows
def none {H : Type} : Left H := { results := [], args := [] }

/-- 'donjonlaw17.LineDoes': WHATEVER THE INPUT: true; the input reads as it did. -/
def lineDoesSpec : ChangeSpec := { name := "lineDoes", fn := fun _ => fun
  | [d] => { results := [.lit (.bool true)], args := [d] }
  | _ => none }
def lineDoesRow : OpenClaim := { program := "ytpjodkcghiklcaa", sum := "d1dc22fb1a8e2c5fc0c40ac414d7c0e0d0069933d94af003de89f0bdc5b398ac", func := "donjon/donjonlaw17.LineDoes", spec := "lineDoes", apart := false }
def LineDoesSaid : Prop := lineDoesRow.holds Try.pinned (OpenSpec.ofChange lineDoesSpec)

/-- ITS FALSE NEIGHBOUR: 'it returns false'. Refute it at one input. -/
def lineDoesWrong : ChangeSpec := { name := "lineDoes", fn := fun _ => fun
  | [d] => { results := [.lit (.bool false)], args := [d] }
  | _ => none }
def LineDoesWrongFalsely : Prop := lineDoesRow.holds Try.pinned (OpenSpec.ofChange lineDoesWrong)

/-- 'donjonlaw17.LineOrder': WHATEVER THE INPUT: true; the input reads as it did. -/
def lineOrderSpec : ChangeSpec := { name := "lineOrder", fn := fun _ => fun
  | [d] => { results := [.lit (.bool true)], args := [d] }
  | _ => none }
def lineOrderRow : OpenClaim := { program := "ytpjodkcghiklcaa", sum := "d1dc22fb1a8e2c5fc0c40ac414d7c0e0d0069933d94af003de89f0bdc5b398ac", func := "donjon/donjonlaw17.LineOrder", spec := "lineOrder", apart := false }
def LineOrderSaid : Prop := lineOrderRow.holds Try.pinned (OpenSpec.ofChange lineOrderSpec)

/-- ITS FALSE NEIGHBOUR: 'it returns false'. Refute it at one input. -/
def lineOrderWrong : ChangeSpec := { name := "lineOrder", fn := fun _ => fun
  | [d] => { results := [.lit (.bool false)], args := [d] }
  | _ => none }
def LineOrderWrongFalsely : Prop := lineOrderRow.holds Try.pinned (OpenSpec.ofChange lineOrderWrong)

/-- 'donjonlaw17.LineReady': WHATEVER THE INPUT: true; the input reads as it did. -/
def lineReadySpec : ChangeSpec := { name := "lineReady", fn := fun _ => fun
  | [d] => { results := [.lit (.bool true)], args := [d] }
  | _ => none }
def lineReadyRow : OpenClaim := { program := "ytpjodkcghiklcaa", sum := "d1dc22fb1a8e2c5fc0c40ac414d7c0e0d0069933d94af003de89f0bdc5b398ac", func := "donjon/donjonlaw17.LineReady", spec := "lineReady", apart := false }
def LineReadySaid : Prop := lineReadyRow.holds Try.pinned (OpenSpec.ofChange lineReadySpec)

/-- ITS FALSE NEIGHBOUR: 'it returns false'. Refute it at one input. -/
def lineReadyWrong : ChangeSpec := { name := "lineReady", fn := fun _ => fun
  | [d] => { results := [.lit (.bool false)], args := [d] }
  | _ => none }
def LineReadyWrongFalsely : Prop := lineReadyRow.holds Try.pinned (OpenSpec.ofChange lineReadyWrong)

/-- 'donjonlaw17.LineQueue': WHATEVER THE INPUT: true; the input reads as it did. -/
def lineQueueSpec : ChangeSpec := { name := "lineQueue", fn := fun _ => fun
  | [d1, d2] => { results := [.lit (.bool true)], args := [d1, d2] }
  | _ => none }
def lineQueueRow : OpenClaim := { program := "ytpjodkcghiklcaa", sum := "d1dc22fb1a8e2c5fc0c40ac414d7c0e0d0069933d94af003de89f0bdc5b398ac", func := "donjon/donjonlaw17.LineQueue", spec := "lineQueue", apart := false }
def LineQueueSaid : Prop := lineQueueRow.holds Try.pinned (OpenSpec.ofChange lineQueueSpec)

/-- ITS FALSE NEIGHBOUR: 'it returns false'. Refute it at one input. -/
def lineQueueWrong : ChangeSpec := { name := "lineQueue", fn := fun _ => fun
  | [d1, d2] => { results := [.lit (.bool false)], args := [d1, d2] }
  | _ => none }
def LineQueueWrongFalsely : Prop := lineQueueRow.holds Try.pinned (OpenSpec.ofChange lineQueueWrong)

/-- 'donjonlaw17.LineLevels': WHATEVER THE INPUT: true; the input reads as it did. -/
def lineLevelsSpec : ChangeSpec := { name := "lineLevels", fn := fun _ => fun
  | [d1, d2] => { results := [.lit (.bool true)], args := [d1, d2] }
  | _ => none }
def lineLevelsRow : OpenClaim := { program := "ytpjodkcghiklcaa", sum := "d1dc22fb1a8e2c5fc0c40ac414d7c0e0d0069933d94af003de89f0bdc5b398ac", func := "donjon/donjonlaw17.LineLevels", spec := "lineLevels", apart := false }
def LineLevelsSaid : Prop := lineLevelsRow.holds Try.pinned (OpenSpec.ofChange lineLevelsSpec)

/-- ITS FALSE NEIGHBOUR: 'it returns false'. Refute it at one input. -/
def lineLevelsWrong : ChangeSpec := { name := "lineLevels", fn := fun _ => fun
  | [d1, d2] => { results := [.lit (.bool false)], args := [d1, d2] }
  | _ => none }
def LineLevelsWrongFalsely : Prop := lineLevelsRow.holds Try.pinned (OpenSpec.ofChange lineLevelsWrong)

/-- 'donjonlaw18.EndpointMeets': WHATEVER THE INPUT: true; the input reads as it did. -/
def endpointMeetsSpec : ChangeSpec := { name := "endpointMeets", fn := fun _ => fun
  | [d] => { results := [.lit (.bool true)], args := [d] }
  | _ => none }
def endpointMeetsRow : OpenClaim := { program := "ytpjodkcghiklcaa", sum := "d1dc22fb1a8e2c5fc0c40ac414d7c0e0d0069933d94af003de89f0bdc5b398ac", func := "donjon/donjonlaw18.EndpointMeets", spec := "endpointMeets", apart := false }
def EndpointMeetsSaid : Prop := endpointMeetsRow.holds Try.pinned (OpenSpec.ofChange endpointMeetsSpec)

/-- ITS FALSE NEIGHBOUR: 'it returns false'. Refute it at one input. -/
def endpointMeetsWrong : ChangeSpec := { name := "endpointMeets", fn := fun _ => fun
  | [d] => { results := [.lit (.bool false)], args := [d] }
  | _ => none }
def EndpointMeetsWrongFalsely : Prop := endpointMeetsRow.holds Try.pinned (OpenSpec.ofChange endpointMeetsWrong)

/-- 'donjonlaw18.EndpointRow': WHATEVER THE INPUT: true; the input reads as it did. -/
def endpointRowSpec : ChangeSpec := { name := "endpointRow", fn := fun _ => fun
  | [d1, d2, d3] => { results := [.lit (.bool true)], args := [d1, d2, d3] }
  | _ => none }
def endpointRowRow : OpenClaim := { program := "ytpjodkcghiklcaa", sum := "d1dc22fb1a8e2c5fc0c40ac414d7c0e0d0069933d94af003de89f0bdc5b398ac", func := "donjon/donjonlaw18.EndpointRow", spec := "endpointRow", apart := false }
def EndpointRowSaid : Prop := endpointRowRow.holds Try.pinned (OpenSpec.ofChange endpointRowSpec)

/-- ITS FALSE NEIGHBOUR: 'it returns false'. Refute it at one input. -/
def endpointRowWrong : ChangeSpec := { name := "endpointRow", fn := fun _ => fun
  | [d1, d2, d3] => { results := [.lit (.bool false)], args := [d1, d2, d3] }
  | _ => none }
def EndpointRowWrongFalsely : Prop := endpointRowRow.holds Try.pinned (OpenSpec.ofChange endpointRowWrong)

/-- 'donjonlaw18.EndpointDoes': WHATEVER THE INPUT: true; the input reads as it did. -/
def endpointDoesSpec : ChangeSpec := { name := "endpointDoes", fn := fun _ => fun
  | [d] => { results := [.lit (.bool true)], args := [d] }
  | _ => none }
def endpointDoesRow : OpenClaim := { program := "ytpjodkcghiklcaa", sum := "d1dc22fb1a8e2c5fc0c40ac414d7c0e0d0069933d94af003de89f0bdc5b398ac", func := "donjon/donjonlaw18.EndpointDoes", spec := "endpointDoes", apart := false }
def EndpointDoesSaid : Prop := endpointDoesRow.holds Try.pinned (OpenSpec.ofChange endpointDoesSpec)

/-- ITS FALSE NEIGHBOUR: 'it returns false'. Refute it at one input. -/
def endpointDoesWrong : ChangeSpec := { name := "endpointDoes", fn := fun _ => fun
  | [d] => { results := [.lit (.bool false)], args := [d] }
  | _ => none }
def EndpointDoesWrongFalsely : Prop := endpointDoesRow.holds Try.pinned (OpenSpec.ofChange endpointDoesWrong)

/-- 'donjonlaw19.NoticeOnce': WHATEVER THE INPUT: true; the input reads as it did. -/
def noticeOnceSpec : ChangeSpec := { name := "noticeOnce", fn := fun _ => fun
  | [d1, d2] => { results := [.lit (.bool true)], args := [d1, d2] }
  | _ => none }
def noticeOnceRow : OpenClaim := { program := "ytpjodkcghiklcaa", sum := "d1dc22fb1a8e2c5fc0c40ac414d7c0e0d0069933d94af003de89f0bdc5b398ac", func := "donjon/donjonlaw19.NoticeOnce", spec := "noticeOnce", apart := false }
def NoticeOnceSaid : Prop := noticeOnceRow.holds Try.pinned (OpenSpec.ofChange noticeOnceSpec)

/-- ITS FALSE NEIGHBOUR: 'it returns false'. Refute it at one input. -/
def noticeOnceWrong : ChangeSpec := { name := "noticeOnce", fn := fun _ => fun
  | [d1, d2] => { results := [.lit (.bool false)], args := [d1, d2] }
  | _ => none }
def NoticeOnceWrongFalsely : Prop := noticeOnceRow.holds Try.pinned (OpenSpec.ofChange noticeOnceWrong)

/-- 'donjonlaw19.NoticeBound': WHATEVER THE INPUT: true; the input reads as it did. -/
def noticeBoundSpec : ChangeSpec := { name := "noticeBound", fn := fun _ => fun
  | [d1, d2, d3] => { results := [.lit (.bool true)], args := [d1, d2, d3] }
  | _ => none }
def noticeBoundRow : OpenClaim := { program := "ytpjodkcghiklcaa", sum := "d1dc22fb1a8e2c5fc0c40ac414d7c0e0d0069933d94af003de89f0bdc5b398ac", func := "donjon/donjonlaw19.NoticeBound", spec := "noticeBound", apart := false }
def NoticeBoundSaid : Prop := noticeBoundRow.holds Try.pinned (OpenSpec.ofChange noticeBoundSpec)

/-- ITS FALSE NEIGHBOUR: 'it returns false'. Refute it at one input. -/
def noticeBoundWrong : ChangeSpec := { name := "noticeBound", fn := fun _ => fun
  | [d1, d2, d3] => { results := [.lit (.bool false)], args := [d1, d2, d3] }
  | _ => none }
def NoticeBoundWrongFalsely : Prop := noticeBoundRow.holds Try.pinned (OpenSpec.ofChange noticeBoundWrong)

/-- 'donjonlaw19.NoticeDoes': WHATEVER THE INPUT: true; the input reads as it did. -/
def noticeDoesSpec : ChangeSpec := { name := "noticeDoes", fn := fun _ => fun
  | [d] => { results := [.lit (.bool true)], args := [d] }
  | _ => none }
def noticeDoesRow : OpenClaim := { program := "ytpjodkcghiklcaa", sum := "d1dc22fb1a8e2c5fc0c40ac414d7c0e0d0069933d94af003de89f0bdc5b398ac", func := "donjon/donjonlaw19.NoticeDoes", spec := "noticeDoes", apart := false }
def NoticeDoesSaid : Prop := noticeDoesRow.holds Try.pinned (OpenSpec.ofChange noticeDoesSpec)

/-- ITS FALSE NEIGHBOUR: 'it returns false'. Refute it at one input. -/
def noticeDoesWrong : ChangeSpec := { name := "noticeDoes", fn := fun _ => fun
  | [d] => { results := [.lit (.bool false)], args := [d] }
  | _ => none }
def NoticeDoesWrongFalsely : Prop := noticeDoesRow.holds Try.pinned (OpenSpec.ofChange noticeDoesWrong)

/-- 'donjonlaw19.NoticeKeeps': WHATEVER THE INPUT: true; the input reads as it did. -/
def noticeKeepsSpec : ChangeSpec := { name := "noticeKeeps", fn := fun _ => fun
  | [d] => { results := [.lit (.bool true)], args := [d] }
  | _ => none }
def noticeKeepsRow : OpenClaim := { program := "ytpjodkcghiklcaa", sum := "d1dc22fb1a8e2c5fc0c40ac414d7c0e0d0069933d94af003de89f0bdc5b398ac", func := "donjon/donjonlaw19.NoticeKeeps", spec := "noticeKeeps", apart := false }
def NoticeKeepsSaid : Prop := noticeKeepsRow.holds Try.pinned (OpenSpec.ofChange noticeKeepsSpec)

/-- ITS FALSE NEIGHBOUR: 'it returns false'. Refute it at one input. -/
def noticeKeepsWrong : ChangeSpec := { name := "noticeKeeps", fn := fun _ => fun
  | [d] => { results := [.lit (.bool false)], args := [d] }
  | _ => none }
def NoticeKeepsWrongFalsely : Prop := noticeKeepsRow.holds Try.pinned (OpenSpec.ofChange noticeKeepsWrong)

/- THE SECOND FORM. 'bulk': how many values and letters a reading holds, each counted each time it is reached (what is shared counts as often as it is met; a slice's spare places count too). A statement '..UptoSaid' is the law's where the arguments, and the package variables that the reading takes, are together of bulk at most 1048576: NARROWER than '..Said'. Prove '..Said' where nothing that the law and all that it calls make is longer than what came in: it says more and counts as full. Else prove '..UptoSaid'. A law counts once. -/
mutual
def uptoBulk {H : Type} : DataW H → Nat
  | .lit (.string bytes) => bytes.length + 1
  | .lit _ => 1
  | .nil => 1
  | .ptr d => uptoBulk d + 1
  | .slice elems spare => uptoBulkAll elems + uptoBulkAll spare + 1
  | .agg parts => uptoBulkAll parts + 1
  | .iface _ d => uptoBulk d + 1
  | .map entries => uptoBulkEntries entries + 1
  | .held _ => 1
def uptoBulkAll {H : Type} : List (DataW H) → Nat
  | [] => 0
  | d :: r => uptoBulk d + uptoBulkAll r
def uptoBulkEntries {H : Type} : List (Lit × DataW H) → Nat
  | [] => 0
  | x :: r => uptoBulkEntry x + uptoBulkEntries r
def uptoBulkEntry {H : Type} : Lit × DataW H → Nat
  | (.string bytes, d) => bytes.length + uptoBulk d + 1
  | (_, d) => uptoBulk d + 1
 end
def uptoSmall : (H : Type) → List (DataW H) → Bool := fun _ ds => decide (uptoBulkAll ds ≤ 1048576)
def OpenSpec.upto (s : _root_.Go.ChangeSpec) : _root_.Go.OpenSpec := { _root_.Go.OpenSpec.ofChange s with cond := some uptoSmall }

/-- 'donjonlaw17.LineDoes', WHERE WHAT IT READS IS OF BULK AT MOST 1048576: true; the input reads as it did. -/
def lineDoesUptoRow : OpenClaim := { program := "ytpjodkcghiklcaa", sum := "d1dc22fb1a8e2c5fc0c40ac414d7c0e0d0069933d94af003de89f0bdc5b398ac", func := "donjon/donjonlaw17.LineDoes", spec := "lineDoes", apart := false, narrowed := true }
def LineDoesUptoSaid : Prop := lineDoesUptoRow.holds Try.pinned (OpenSpec.upto lineDoesSpec)

/-- 'donjonlaw17.LineOrder', WHERE WHAT IT READS IS OF BULK AT MOST 1048576: true; the input reads as it did. -/
def lineOrderUptoRow : OpenClaim := { program := "ytpjodkcghiklcaa", sum := "d1dc22fb1a8e2c5fc0c40ac414d7c0e0d0069933d94af003de89f0bdc5b398ac", func := "donjon/donjonlaw17.LineOrder", spec := "lineOrder", apart := false, narrowed := true }
def LineOrderUptoSaid : Prop := lineOrderUptoRow.holds Try.pinned (OpenSpec.upto lineOrderSpec)

/-- 'donjonlaw17.LineReady', WHERE WHAT IT READS IS OF BULK AT MOST 1048576: true; the input reads as it did. -/
def lineReadyUptoRow : OpenClaim := { program := "ytpjodkcghiklcaa", sum := "d1dc22fb1a8e2c5fc0c40ac414d7c0e0d0069933d94af003de89f0bdc5b398ac", func := "donjon/donjonlaw17.LineReady", spec := "lineReady", apart := false, narrowed := true }
def LineReadyUptoSaid : Prop := lineReadyUptoRow.holds Try.pinned (OpenSpec.upto lineReadySpec)

/-- 'donjonlaw17.LineQueue', WHERE WHAT IT READS IS OF BULK AT MOST 1048576: true; the input reads as it did. -/
def lineQueueUptoRow : OpenClaim := { program := "ytpjodkcghiklcaa", sum := "d1dc22fb1a8e2c5fc0c40ac414d7c0e0d0069933d94af003de89f0bdc5b398ac", func := "donjon/donjonlaw17.LineQueue", spec := "lineQueue", apart := false, narrowed := true }
def LineQueueUptoSaid : Prop := lineQueueUptoRow.holds Try.pinned (OpenSpec.upto lineQueueSpec)

/-- 'donjonlaw17.LineLevels', WHERE WHAT IT READS IS OF BULK AT MOST 1048576: true; the input reads as it did. -/
def lineLevelsUptoRow : OpenClaim := { program := "ytpjodkcghiklcaa", sum := "d1dc22fb1a8e2c5fc0c40ac414d7c0e0d0069933d94af003de89f0bdc5b398ac", func := "donjon/donjonlaw17.LineLevels", spec := "lineLevels", apart := false, narrowed := true }
def LineLevelsUptoSaid : Prop := lineLevelsUptoRow.holds Try.pinned (OpenSpec.upto lineLevelsSpec)

/-- 'donjonlaw18.EndpointMeets', WHERE WHAT IT READS IS OF BULK AT MOST 1048576: true; the input reads as it did. -/
def endpointMeetsUptoRow : OpenClaim := { program := "ytpjodkcghiklcaa", sum := "d1dc22fb1a8e2c5fc0c40ac414d7c0e0d0069933d94af003de89f0bdc5b398ac", func := "donjon/donjonlaw18.EndpointMeets", spec := "endpointMeets", apart := false, narrowed := true }
def EndpointMeetsUptoSaid : Prop := endpointMeetsUptoRow.holds Try.pinned (OpenSpec.upto endpointMeetsSpec)

/-- 'donjonlaw18.EndpointRow', WHERE WHAT IT READS IS OF BULK AT MOST 1048576: true; the input reads as it did. -/
def endpointRowUptoRow : OpenClaim := { program := "ytpjodkcghiklcaa", sum := "d1dc22fb1a8e2c5fc0c40ac414d7c0e0d0069933d94af003de89f0bdc5b398ac", func := "donjon/donjonlaw18.EndpointRow", spec := "endpointRow", apart := false, narrowed := true }
def EndpointRowUptoSaid : Prop := endpointRowUptoRow.holds Try.pinned (OpenSpec.upto endpointRowSpec)

/-- 'donjonlaw18.EndpointDoes', WHERE WHAT IT READS IS OF BULK AT MOST 1048576: true; the input reads as it did. -/
def endpointDoesUptoRow : OpenClaim := { program := "ytpjodkcghiklcaa", sum := "d1dc22fb1a8e2c5fc0c40ac414d7c0e0d0069933d94af003de89f0bdc5b398ac", func := "donjon/donjonlaw18.EndpointDoes", spec := "endpointDoes", apart := false, narrowed := true }
def EndpointDoesUptoSaid : Prop := endpointDoesUptoRow.holds Try.pinned (OpenSpec.upto endpointDoesSpec)

/-- 'donjonlaw19.NoticeOnce', WHERE WHAT IT READS IS OF BULK AT MOST 1048576: true; the input reads as it did. -/
def noticeOnceUptoRow : OpenClaim := { program := "ytpjodkcghiklcaa", sum := "d1dc22fb1a8e2c5fc0c40ac414d7c0e0d0069933d94af003de89f0bdc5b398ac", func := "donjon/donjonlaw19.NoticeOnce", spec := "noticeOnce", apart := false, narrowed := true }
def NoticeOnceUptoSaid : Prop := noticeOnceUptoRow.holds Try.pinned (OpenSpec.upto noticeOnceSpec)

/-- 'donjonlaw19.NoticeBound', WHERE WHAT IT READS IS OF BULK AT MOST 1048576: true; the input reads as it did. -/
def noticeBoundUptoRow : OpenClaim := { program := "ytpjodkcghiklcaa", sum := "d1dc22fb1a8e2c5fc0c40ac414d7c0e0d0069933d94af003de89f0bdc5b398ac", func := "donjon/donjonlaw19.NoticeBound", spec := "noticeBound", apart := false, narrowed := true }
def NoticeBoundUptoSaid : Prop := noticeBoundUptoRow.holds Try.pinned (OpenSpec.upto noticeBoundSpec)

/-- 'donjonlaw19.NoticeDoes', WHERE WHAT IT READS IS OF BULK AT MOST 1048576: true; the input reads as it did. -/
def noticeDoesUptoRow : OpenClaim := { program := "ytpjodkcghiklcaa", sum := "d1dc22fb1a8e2c5fc0c40ac414d7c0e0d0069933d94af003de89f0bdc5b398ac", func := "donjon/donjonlaw19.NoticeDoes", spec := "noticeDoes", apart := false, narrowed := true }
def NoticeDoesUptoSaid : Prop := noticeDoesUptoRow.holds Try.pinned (OpenSpec.upto noticeDoesSpec)

/-- 'donjonlaw19.NoticeKeeps', WHERE WHAT IT READS IS OF BULK AT MOST 1048576: true; the input reads as it did. -/
def noticeKeepsUptoRow : OpenClaim := { program := "ytpjodkcghiklcaa", sum := "d1dc22fb1a8e2c5fc0c40ac414d7c0e0d0069933d94af003de89f0bdc5b398ac", func := "donjon/donjonlaw19.NoticeKeeps", spec := "noticeKeeps", apart := false, narrowed := true }
def NoticeKeepsUptoSaid : Prop := noticeKeepsUptoRow.holds Try.pinned (OpenSpec.upto noticeKeepsSpec)

end Rows
end Go.Proofs.Ytpjodkcghiklcaa
