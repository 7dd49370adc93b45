/-
  No cell of these rows narrows 'for every input' (looked for: loops, veiled, ifaces, maps, wideKeys, modest, calm, conditions, laid).
  DERIVED. THE GIVEN ROWS OF THIS SEAT. 4 by the template 'for every input the law returns true; each argument reads behind the call as it read before'; 0 by the template 'total and deterministic' (their statements: YtmmhjibgmpdjoaaTotals.lean).
  GIVEN WITH THE SEED: the statements are not yours to turn. If you find one false, say at which input.
  Laid BY PROGRAM, IN A SANDBOX (cutbox-rows.mjs): the forced cells as the released guide's own fill.sh prints them over the translation c741429e48f2beb3… (all of the seat's roots in one cut). By AI agents, Wed Nov 11 2026. No macro, syntax, notation, axiom, sorry.
-/
import Derived.Test.YtmmhjibgmpdjoaaChecked
import GoSem.Claim
import GoSem.ClaimJoined
import GoSem.ClaimMapViews
import Derived.JoinedTies
import Derived.KernelRfl
namespace Go.Proofs.Ytmmhjibgmpdjoaa
/- THE CELL 'sum', in the pinned program and in every row, IS THE sha256 OF THE DUMP (.gsa) THAT YtmmhjibgmpdjoaaProg.lean LOADS. Nothing in Lean hashes anything: it is a label: what it is worth is what the hold of that sum in a sandbox is worth. -/
noncomputable def Try.pinned : Pinned := { name := "ytmmhjibgmpdjoaa", sum := "c741429e48f2beb36e3b689ad794c4b53f068c0e0eb14fb467b822a3cba84cd5", checked := Try.checked }
namespace Rows
def none {H : Type} : Left H := { results := [], args := [] }

/-- 'porterlaw14.EpochsPlay': WHATEVER THE INPUT: true; the input reads as it did. -/
def epochsPlaySpec : ChangeSpec := { name := "epochsPlay", fn := fun _ => fun
  | [d1, d2] => { results := [.lit (.bool true)], args := [d1, d2] }
  | _ => none }
def epochsPlayRow : OpenClaim := { program := "ytmmhjibgmpdjoaa", sum := "c741429e48f2beb36e3b689ad794c4b53f068c0e0eb14fb467b822a3cba84cd5", func := "porter/porterlaw14.EpochsPlay", spec := "epochsPlay", unfollowed := true, recurses := true, apart := false }
def EpochsPlaySaid : Prop := epochsPlayRow.holds Try.pinned (OpenSpec.ofChange epochsPlaySpec)

/-- ITS FALSE NEIGHBOUR: 'it returns false'. Refute it at one input. -/
def epochsPlayWrong : ChangeSpec := { name := "epochsPlay", fn := fun _ => fun
  | [d1, d2] => { results := [.lit (.bool false)], args := [d1, d2] }
  | _ => none }
def EpochsPlayWrongFalsely : Prop := epochsPlayRow.holds Try.pinned (OpenSpec.ofChange epochsPlayWrong)

/-- 'porterlaw14.EpochsNone': WHATEVER THE INPUT: true; the input reads as it did. -/
def epochsNoneSpec : ChangeSpec := { name := "epochsNone", fn := fun _ => fun
  | [d1, d2] => { results := [.lit (.bool true)], args := [d1, d2] }
  | _ => none }
def epochsNoneRow : OpenClaim := { program := "ytmmhjibgmpdjoaa", sum := "c741429e48f2beb36e3b689ad794c4b53f068c0e0eb14fb467b822a3cba84cd5", func := "porter/porterlaw14.EpochsNone", spec := "epochsNone", unfollowed := true, recurses := true, apart := false }
def EpochsNoneSaid : Prop := epochsNoneRow.holds Try.pinned (OpenSpec.ofChange epochsNoneSpec)

/-- ITS FALSE NEIGHBOUR: 'it returns false'. Refute it at one input. -/
def epochsNoneWrong : ChangeSpec := { name := "epochsNone", fn := fun _ => fun
  | [d1, d2] => { results := [.lit (.bool false)], args := [d1, d2] }
  | _ => none }
def EpochsNoneWrongFalsely : Prop := epochsNoneRow.holds Try.pinned (OpenSpec.ofChange epochsNoneWrong)

/-- 'porterlaw14.EpochsGrace': WHATEVER THE INPUT: true; the input reads as it did. -/
def epochsGraceSpec : ChangeSpec := { name := "epochsGrace", fn := fun _ => fun
  | [d1, d2] => { results := [.lit (.bool true)], args := [d1, d2] }
  | _ => none }
def epochsGraceRow : OpenClaim := { program := "ytmmhjibgmpdjoaa", sum := "c741429e48f2beb36e3b689ad794c4b53f068c0e0eb14fb467b822a3cba84cd5", func := "porter/porterlaw14.EpochsGrace", spec := "epochsGrace", unfollowed := true, recurses := true, apart := false }
def EpochsGraceSaid : Prop := epochsGraceRow.holds Try.pinned (OpenSpec.ofChange epochsGraceSpec)

/-- ITS FALSE NEIGHBOUR: 'it returns false'. Refute it at one input. -/
def epochsGraceWrong : ChangeSpec := { name := "epochsGrace", fn := fun _ => fun
  | [d1, d2] => { results := [.lit (.bool false)], args := [d1, d2] }
  | _ => none }
def EpochsGraceWrongFalsely : Prop := epochsGraceRow.holds Try.pinned (OpenSpec.ofChange epochsGraceWrong)

/-- 'porterlaw14.EpochsEnd': WHATEVER THE INPUT: true; the input reads as it did. -/
def epochsEndSpec : ChangeSpec := { name := "epochsEnd", fn := fun _ => fun
  | [d1, d2] => { results := [.lit (.bool true)], args := [d1, d2] }
  | _ => none }
def epochsEndRow : OpenClaim := { program := "ytmmhjibgmpdjoaa", sum := "c741429e48f2beb36e3b689ad794c4b53f068c0e0eb14fb467b822a3cba84cd5", func := "porter/porterlaw14.EpochsEnd", spec := "epochsEnd", unfollowed := true, recurses := true, apart := false }
def EpochsEndSaid : Prop := epochsEndRow.holds Try.pinned (OpenSpec.ofChange epochsEndSpec)

/-- ITS FALSE NEIGHBOUR: 'it returns false'. Refute it at one input. -/
def epochsEndWrong : ChangeSpec := { name := "epochsEnd", fn := fun _ => fun
  | [d1, d2] => { results := [.lit (.bool false)], args := [d1, d2] }
  | _ => none }
def EpochsEndWrongFalsely : Prop := epochsEndRow.holds Try.pinned (OpenSpec.ofChange epochsEndWrong)

/- THE SECOND FORM. 'bulk': how many values and letters a reading holds, each counted each time it is reached (what is shared counts as often as it is met; a slice's spare places count too). A statement '..UptoSaid' is the law's where the arguments, and the package variables that the reading takes, are together of bulk at most 1048576: NARROWER than '..Said'. Prove '..Said' where nothing that the law and all that it calls make is longer than what came in: it says more and counts as full. Else prove '..UptoSaid'. A law counts once. -/
mutual
def uptoBulk {H : Type} : DataW H → Nat
  | .lit (.string bytes) => bytes.length + 1
  | .lit _ => 1
  | .nil => 1
  | .ptr d => uptoBulk d + 1
  | .slice elems spare => uptoBulkAll elems + uptoBulkAll spare + 1
  | .agg parts => uptoBulkAll parts + 1
  | .iface _ d => uptoBulk d + 1
  | .map entries => uptoBulkEntries entries + 1
  | .held _ => 1
def uptoBulkAll {H : Type} : List (DataW H) → Nat
  | [] => 0
  | d :: r => uptoBulk d + uptoBulkAll r
def uptoBulkEntries {H : Type} : List (Lit × DataW H) → Nat
  | [] => 0
  | x :: r => uptoBulkEntry x + uptoBulkEntries r
def uptoBulkEntry {H : Type} : Lit × DataW H → Nat
  | (.string bytes, d) => bytes.length + uptoBulk d + 1
  | (_, d) => uptoBulk d + 1
 end
def uptoSmall : (H : Type) → List (DataW H) → Bool := fun _ ds => decide (uptoBulkAll ds ≤ 1048576)
def OpenSpec.upto (s : _root_.Go.ChangeSpec) : _root_.Go.OpenSpec := { _root_.Go.OpenSpec.ofChange s with cond := some uptoSmall }

/-- 'porterlaw14.EpochsPlay', WHERE WHAT IT READS IS OF BULK AT MOST 1048576: true; the input reads as it did. -/
def epochsPlayUptoRow : OpenClaim := { program := "ytmmhjibgmpdjoaa", sum := "c741429e48f2beb36e3b689ad794c4b53f068c0e0eb14fb467b822a3cba84cd5", func := "porter/porterlaw14.EpochsPlay", spec := "epochsPlay", unfollowed := true, recurses := true, apart := false, narrowed := true }
def EpochsPlayUptoSaid : Prop := epochsPlayUptoRow.holds Try.pinned (OpenSpec.upto epochsPlaySpec)

/-- 'porterlaw14.EpochsNone', WHERE WHAT IT READS IS OF BULK AT MOST 1048576: true; the input reads as it did. -/
def epochsNoneUptoRow : OpenClaim := { program := "ytmmhjibgmpdjoaa", sum := "c741429e48f2beb36e3b689ad794c4b53f068c0e0eb14fb467b822a3cba84cd5", func := "porter/porterlaw14.EpochsNone", spec := "epochsNone", unfollowed := true, recurses := true, apart := false, narrowed := true }
def EpochsNoneUptoSaid : Prop := epochsNoneUptoRow.holds Try.pinned (OpenSpec.upto epochsNoneSpec)

/-- 'porterlaw14.EpochsGrace', WHERE WHAT IT READS IS OF BULK AT MOST 1048576: true; the input reads as it did. -/
def epochsGraceUptoRow : OpenClaim := { program := "ytmmhjibgmpdjoaa", sum := "c741429e48f2beb36e3b689ad794c4b53f068c0e0eb14fb467b822a3cba84cd5", func := "porter/porterlaw14.EpochsGrace", spec := "epochsGrace", unfollowed := true, recurses := true, apart := false, narrowed := true }
def EpochsGraceUptoSaid : Prop := epochsGraceUptoRow.holds Try.pinned (OpenSpec.upto epochsGraceSpec)

/-- 'porterlaw14.EpochsEnd', WHERE WHAT IT READS IS OF BULK AT MOST 1048576: true; the input reads as it did. -/
def epochsEndUptoRow : OpenClaim := { program := "ytmmhjibgmpdjoaa", sum := "c741429e48f2beb36e3b689ad794c4b53f068c0e0eb14fb467b822a3cba84cd5", func := "porter/porterlaw14.EpochsEnd", spec := "epochsEnd", unfollowed := true, recurses := true, apart := false, narrowed := true }
def EpochsEndUptoSaid : Prop := epochsEndUptoRow.holds Try.pinned (OpenSpec.upto epochsEndSpec)

end Rows
end Go.Proofs.Ytmmhjibgmpdjoaa
