/-
  No cell of these rows narrows 'for every input' (looked for: loops, veiled, ifaces, maps, wideKeys, modest, calm, conditions, laid).
  DERIVED. THE GIVEN ROWS OF THIS SEAT. 5 by the template 'for every input the law returns true; each argument reads behind the call as it read before'; 0 by the template 'total and deterministic' (their statements: YtgoaokgoenihlaaTotals.lean).
  GIVEN WITH THE SEED: the statements are not yours to turn. If you find one false, say at which input.
  Laid BY PROGRAM, IN A SANDBOX (cutbox-rows.mjs): the forced cells as the released guide's own fill.sh prints them over the translation 9b590b7df4aa24e1… (all of the seat's roots in one cut). By AI agents, Wed Nov 11 2026. No macro, syntax, notation, axiom, sorry.
-/
import Derived.Test.YtgoaokgoenihlaaChecked
import GoSem.Claim
import GoSem.ClaimJoined
import GoSem.ClaimMapViews
import Derived.JoinedTies
import Derived.KernelRfl
namespace Go.Proofs.Ytgoaokgoenihlaa
/- THE CELL 'sum', in the pinned program and in every row, IS THE sha256 OF THE DUMP (.gsa) THAT YtgoaokgoenihlaaProg.lean LOADS. Nothing in Lean hashes anything: it is a label: what it is worth is what the hold of that sum in a sandbox is worth. -/
noncomputable def Try.pinned : Pinned := { name := "ytgoaokgoenihlaa", sum := "9b590b7df4aa24e1e99671de79cdfc82f2170b824014c8ce0381ba39bf4d5eb9", checked := Try.checked }
namespace Rows
def none {H : Type} : Left H := { results := [], args := [] }

/-- 'porterlaw15.WheelsNext': WHATEVER THE INPUT: true; the input reads as it did. -/
def wheelsNextSpec : ChangeSpec := { name := "wheelsNext", fn := fun _ => fun
  | [d1, d2] => { results := [.lit (.bool true)], args := [d1, d2] }
  | _ => none }
def wheelsNextRow : OpenClaim := { program := "ytgoaokgoenihlaa", sum := "9b590b7df4aa24e1e99671de79cdfc82f2170b824014c8ce0381ba39bf4d5eb9", func := "porter/porterlaw15.WheelsNext", spec := "wheelsNext", unfollowed := true, recurses := true, plainKeys := false, apart := false }
def WheelsNextSaid : Prop := wheelsNextRow.holds Try.pinned (OpenSpec.ofChange wheelsNextSpec)

/-- ITS FALSE NEIGHBOUR: 'it returns false'. Refute it at one input. -/
def wheelsNextWrong : ChangeSpec := { name := "wheelsNext", fn := fun _ => fun
  | [d1, d2] => { results := [.lit (.bool false)], args := [d1, d2] }
  | _ => none }
def WheelsNextWrongFalsely : Prop := wheelsNextRow.holds Try.pinned (OpenSpec.ofChange wheelsNextWrong)

/-- 'porterlaw15.WheelsOnce': WHATEVER THE INPUT: true; the input reads as it did. -/
def wheelsOnceSpec : ChangeSpec := { name := "wheelsOnce", fn := fun _ => fun
  | [d1, d2] => { results := [.lit (.bool true)], args := [d1, d2] }
  | _ => none }
def wheelsOnceRow : OpenClaim := { program := "ytgoaokgoenihlaa", sum := "9b590b7df4aa24e1e99671de79cdfc82f2170b824014c8ce0381ba39bf4d5eb9", func := "porter/porterlaw15.WheelsOnce", spec := "wheelsOnce", unfollowed := true, recurses := true, plainKeys := false, apart := false }
def WheelsOnceSaid : Prop := wheelsOnceRow.holds Try.pinned (OpenSpec.ofChange wheelsOnceSpec)

/-- ITS FALSE NEIGHBOUR: 'it returns false'. Refute it at one input. -/
def wheelsOnceWrong : ChangeSpec := { name := "wheelsOnce", fn := fun _ => fun
  | [d1, d2] => { results := [.lit (.bool false)], args := [d1, d2] }
  | _ => none }
def WheelsOnceWrongFalsely : Prop := wheelsOnceRow.holds Try.pinned (OpenSpec.ofChange wheelsOnceWrong)

/-- 'porterlaw15.WheelsSizes': WHATEVER THE INPUT: true; the input reads as it did. -/
def wheelsSizesSpec : ChangeSpec := { name := "wheelsSizes", fn := fun _ => fun
  | [d1, d2] => { results := [.lit (.bool true)], args := [d1, d2] }
  | _ => none }
def wheelsSizesRow : OpenClaim := { program := "ytgoaokgoenihlaa", sum := "9b590b7df4aa24e1e99671de79cdfc82f2170b824014c8ce0381ba39bf4d5eb9", func := "porter/porterlaw15.WheelsSizes", spec := "wheelsSizes", unfollowed := true, recurses := true, plainKeys := false, apart := false }
def WheelsSizesSaid : Prop := wheelsSizesRow.holds Try.pinned (OpenSpec.ofChange wheelsSizesSpec)

/-- ITS FALSE NEIGHBOUR: 'it returns false'. Refute it at one input. -/
def wheelsSizesWrong : ChangeSpec := { name := "wheelsSizes", fn := fun _ => fun
  | [d1, d2] => { results := [.lit (.bool false)], args := [d1, d2] }
  | _ => none }
def WheelsSizesWrongFalsely : Prop := wheelsSizesRow.holds Try.pinned (OpenSpec.ofChange wheelsSizesWrong)

/-- 'porterlaw15.WheelsPlay': WHATEVER THE INPUT: true; the input reads as it did. -/
def wheelsPlaySpec : ChangeSpec := { name := "wheelsPlay", fn := fun _ => fun
  | [d1, d2] => { results := [.lit (.bool true)], args := [d1, d2] }
  | _ => none }
def wheelsPlayRow : OpenClaim := { program := "ytgoaokgoenihlaa", sum := "9b590b7df4aa24e1e99671de79cdfc82f2170b824014c8ce0381ba39bf4d5eb9", func := "porter/porterlaw15.WheelsPlay", spec := "wheelsPlay", unfollowed := true, recurses := true, plainKeys := false, apart := false }
def WheelsPlaySaid : Prop := wheelsPlayRow.holds Try.pinned (OpenSpec.ofChange wheelsPlaySpec)

/-- ITS FALSE NEIGHBOUR: 'it returns false'. Refute it at one input. -/
def wheelsPlayWrong : ChangeSpec := { name := "wheelsPlay", fn := fun _ => fun
  | [d1, d2] => { results := [.lit (.bool false)], args := [d1, d2] }
  | _ => none }
def WheelsPlayWrongFalsely : Prop := wheelsPlayRow.holds Try.pinned (OpenSpec.ofChange wheelsPlayWrong)

/-- 'porterlaw15.WheelsNone': WHATEVER THE INPUT: true; the input reads as it did. -/
def wheelsNoneSpec : ChangeSpec := { name := "wheelsNone", fn := fun _ => fun
  | [d1, d2] => { results := [.lit (.bool true)], args := [d1, d2] }
  | _ => none }
def wheelsNoneRow : OpenClaim := { program := "ytgoaokgoenihlaa", sum := "9b590b7df4aa24e1e99671de79cdfc82f2170b824014c8ce0381ba39bf4d5eb9", func := "porter/porterlaw15.WheelsNone", spec := "wheelsNone", unfollowed := true, recurses := true, plainKeys := false, apart := false }
def WheelsNoneSaid : Prop := wheelsNoneRow.holds Try.pinned (OpenSpec.ofChange wheelsNoneSpec)

/-- ITS FALSE NEIGHBOUR: 'it returns false'. Refute it at one input. -/
def wheelsNoneWrong : ChangeSpec := { name := "wheelsNone", fn := fun _ => fun
  | [d1, d2] => { results := [.lit (.bool false)], args := [d1, d2] }
  | _ => none }
def WheelsNoneWrongFalsely : Prop := wheelsNoneRow.holds Try.pinned (OpenSpec.ofChange wheelsNoneWrong)

/- THE SECOND FORM. 'bulk': how many values and letters a reading holds, each counted each time it is reached (what is shared counts as often as it is met; a slice's spare places count too). A statement '..UptoSaid' is the law's where the arguments, and the package variables that the reading takes, are together of bulk at most 1048576: NARROWER than '..Said'. Prove '..Said' where nothing that the law and all that it calls make is longer than what came in: it says more and counts as full. Else prove '..UptoSaid'. A law counts once. -/
mutual
def uptoBulk {H : Type} : DataW H → Nat
  | .lit (.string bytes) => bytes.length + 1
  | .lit _ => 1
  | .nil => 1
  | .ptr d => uptoBulk d + 1
  | .slice elems spare => uptoBulkAll elems + uptoBulkAll spare + 1
  | .agg parts => uptoBulkAll parts + 1
  | .iface _ d => uptoBulk d + 1
  | .map entries => uptoBulkEntries entries + 1
  | .held _ => 1
def uptoBulkAll {H : Type} : List (DataW H) → Nat
  | [] => 0
  | d :: r => uptoBulk d + uptoBulkAll r
def uptoBulkEntries {H : Type} : List (Lit × DataW H) → Nat
  | [] => 0
  | x :: r => uptoBulkEntry x + uptoBulkEntries r
def uptoBulkEntry {H : Type} : Lit × DataW H → Nat
  | (.string bytes, d) => bytes.length + uptoBulk d + 1
  | (_, d) => uptoBulk d + 1
 end
def uptoSmall : (H : Type) → List (DataW H) → Bool := fun _ ds => decide (uptoBulkAll ds ≤ 1048576)
def OpenSpec.upto (s : _root_.Go.ChangeSpec) : _root_.Go.OpenSpec := { _root_.Go.OpenSpec.ofChange s with cond := some uptoSmall }

/-- 'porterlaw15.WheelsNext', WHERE WHAT IT READS IS OF BULK AT MOST 1048576: true; the input reads as it did. -/
def wheelsNextUptoRow : OpenClaim := { program := "ytgoaokgoenihlaa", sum := "9b590b7df4aa24e1e99671de79cdfc82f2170b824014c8ce0381ba39bf4d5eb9", func := "porter/porterlaw15.WheelsNext", spec := "wheelsNext", unfollowed := true, recurses := true, plainKeys := false, apart := false, narrowed := true }
def WheelsNextUptoSaid : Prop := wheelsNextUptoRow.holds Try.pinned (OpenSpec.upto wheelsNextSpec)

/-- 'porterlaw15.WheelsOnce', WHERE WHAT IT READS IS OF BULK AT MOST 1048576: true; the input reads as it did. -/
def wheelsOnceUptoRow : OpenClaim := { program := "ytgoaokgoenihlaa", sum := "9b590b7df4aa24e1e99671de79cdfc82f2170b824014c8ce0381ba39bf4d5eb9", func := "porter/porterlaw15.WheelsOnce", spec := "wheelsOnce", unfollowed := true, recurses := true, plainKeys := false, apart := false, narrowed := true }
def WheelsOnceUptoSaid : Prop := wheelsOnceUptoRow.holds Try.pinned (OpenSpec.upto wheelsOnceSpec)

/-- 'porterlaw15.WheelsSizes', WHERE WHAT IT READS IS OF BULK AT MOST 1048576: true; the input reads as it did. -/
def wheelsSizesUptoRow : OpenClaim := { program := "ytgoaokgoenihlaa", sum := "9b590b7df4aa24e1e99671de79cdfc82f2170b824014c8ce0381ba39bf4d5eb9", func := "porter/porterlaw15.WheelsSizes", spec := "wheelsSizes", unfollowed := true, recurses := true, plainKeys := false, apart := false, narrowed := true }
def WheelsSizesUptoSaid : Prop := wheelsSizesUptoRow.holds Try.pinned (OpenSpec.upto wheelsSizesSpec)

/-- 'porterlaw15.WheelsPlay', WHERE WHAT IT READS IS OF BULK AT MOST 1048576: true; the input reads as it did. -/
def wheelsPlayUptoRow : OpenClaim := { program := "ytgoaokgoenihlaa", sum := "9b590b7df4aa24e1e99671de79cdfc82f2170b824014c8ce0381ba39bf4d5eb9", func := "porter/porterlaw15.WheelsPlay", spec := "wheelsPlay", unfollowed := true, recurses := true, plainKeys := false, apart := false, narrowed := true }
def WheelsPlayUptoSaid : Prop := wheelsPlayUptoRow.holds Try.pinned (OpenSpec.upto wheelsPlaySpec)

/-- 'porterlaw15.WheelsNone', WHERE WHAT IT READS IS OF BULK AT MOST 1048576: true; the input reads as it did. -/
def wheelsNoneUptoRow : OpenClaim := { program := "ytgoaokgoenihlaa", sum := "9b590b7df4aa24e1e99671de79cdfc82f2170b824014c8ce0381ba39bf4d5eb9", func := "porter/porterlaw15.WheelsNone", spec := "wheelsNone", unfollowed := true, recurses := true, plainKeys := false, apart := false, narrowed := true }
def WheelsNoneUptoSaid : Prop := wheelsNoneUptoRow.holds Try.pinned (OpenSpec.upto wheelsNoneSpec)

end Rows
end Go.Proofs.Ytgoaokgoenihlaa
