/-
  No cell of these rows narrows 'for every input' (looked for: loops, veiled, ifaces, maps, wideKeys, modest, calm, conditions, laid).
  DERIVED. THE GIVEN ROWS OF THIS SEAT. 4 by the template 'for every input the law returns true; each argument reads behind the call as it read before'; 0 by the template 'total and deterministic' (their statements: YthfmngpocfofnaaTotals.lean).
  GIVEN WITH THE SEED: the statements are not yours to turn. If you find one false, say at which input.
  Laid BY PROGRAM, IN A SANDBOX (cutbox-rows.mjs): the forced cells as the released guide's own fill.sh prints them over the translation 1e3a18e2967f4741… (all of the seat's roots in one cut). By AI agents, Wed Nov 11 2026. No macro, syntax, notation, axiom, sorry.
-/
import Derived.Test.YthfmngpocfofnaaChecked
import GoSem.Claim
import GoSem.ClaimJoined
import GoSem.ClaimMapViews
import Derived.JoinedTies
import Derived.KernelRfl
namespace Go.Proofs.Ythfmngpocfofnaa
/- THE CELL 'sum', in the pinned program and in every row, IS THE sha256 OF THE DUMP (.gsa) THAT YthfmngpocfofnaaProg.lean LOADS. Nothing in Lean hashes anything: it is a label: what it is worth is what the hold of that sum in a sandbox is worth. -/
noncomputable def Try.pinned : Pinned := { name := "ythfmngpocfofnaa", sum := "1e3a18e2967f4741f865e1e98611868c4606390b03ee7f69ca840abff8a68670", checked := Try.checked }
namespace Rows
def none {H : Type} : Left H := { results := [], args := [] }

/-- 'porterlaw13.SlabAll': WHATEVER THE INPUT: true; the input reads as it did. -/
def slabAllSpec : ChangeSpec := { name := "slabAll", fn := fun _ => fun
  | [d1, d2] => { results := [.lit (.bool true)], args := [d1, d2] }
  | _ => none }
def slabAllRow : OpenClaim := { program := "ythfmngpocfofnaa", sum := "1e3a18e2967f4741f865e1e98611868c4606390b03ee7f69ca840abff8a68670", func := "porter/porterlaw13.SlabAll", spec := "slabAll", unfollowed := true, recurses := true, apart := false }
def SlabAllSaid : Prop := slabAllRow.holds Try.pinned (OpenSpec.ofChange slabAllSpec)

/-- ITS FALSE NEIGHBOUR: 'it returns false'. Refute it at one input. -/
def slabAllWrong : ChangeSpec := { name := "slabAll", fn := fun _ => fun
  | [d1, d2] => { results := [.lit (.bool false)], args := [d1, d2] }
  | _ => none }
def SlabAllWrongFalsely : Prop := slabAllRow.holds Try.pinned (OpenSpec.ofChange slabAllWrong)

/-- 'porterlaw13.SlabOnce': WHATEVER THE INPUT: true; the input reads as it did. -/
def slabOnceSpec : ChangeSpec := { name := "slabOnce", fn := fun _ => fun
  | [d1, d2] => { results := [.lit (.bool true)], args := [d1, d2] }
  | _ => none }
def slabOnceRow : OpenClaim := { program := "ythfmngpocfofnaa", sum := "1e3a18e2967f4741f865e1e98611868c4606390b03ee7f69ca840abff8a68670", func := "porter/porterlaw13.SlabOnce", spec := "slabOnce", unfollowed := true, recurses := true, apart := false }
def SlabOnceSaid : Prop := slabOnceRow.holds Try.pinned (OpenSpec.ofChange slabOnceSpec)

/-- ITS FALSE NEIGHBOUR: 'it returns false'. Refute it at one input. -/
def slabOnceWrong : ChangeSpec := { name := "slabOnce", fn := fun _ => fun
  | [d1, d2] => { results := [.lit (.bool false)], args := [d1, d2] }
  | _ => none }
def SlabOnceWrongFalsely : Prop := slabOnceRow.holds Try.pinned (OpenSpec.ofChange slabOnceWrong)

/-- 'porterlaw13.SlabPlay': WHATEVER THE INPUT: true; the input reads as it did. -/
def slabPlaySpec : ChangeSpec := { name := "slabPlay", fn := fun _ => fun
  | [d1, d2] => { results := [.lit (.bool true)], args := [d1, d2] }
  | _ => none }
def slabPlayRow : OpenClaim := { program := "ythfmngpocfofnaa", sum := "1e3a18e2967f4741f865e1e98611868c4606390b03ee7f69ca840abff8a68670", func := "porter/porterlaw13.SlabPlay", spec := "slabPlay", unfollowed := true, recurses := true, apart := false }
def SlabPlaySaid : Prop := slabPlayRow.holds Try.pinned (OpenSpec.ofChange slabPlaySpec)

/-- ITS FALSE NEIGHBOUR: 'it returns false'. Refute it at one input. -/
def slabPlayWrong : ChangeSpec := { name := "slabPlay", fn := fun _ => fun
  | [d1, d2] => { results := [.lit (.bool false)], args := [d1, d2] }
  | _ => none }
def SlabPlayWrongFalsely : Prop := slabPlayRow.holds Try.pinned (OpenSpec.ofChange slabPlayWrong)

/-- 'porterlaw13.SlabNone': WHATEVER THE INPUT: true; the input reads as it did. -/
def slabNoneSpec : ChangeSpec := { name := "slabNone", fn := fun _ => fun
  | [d1, d2] => { results := [.lit (.bool true)], args := [d1, d2] }
  | _ => none }
def slabNoneRow : OpenClaim := { program := "ythfmngpocfofnaa", sum := "1e3a18e2967f4741f865e1e98611868c4606390b03ee7f69ca840abff8a68670", func := "porter/porterlaw13.SlabNone", spec := "slabNone", unfollowed := true, recurses := true, apart := false }
def SlabNoneSaid : Prop := slabNoneRow.holds Try.pinned (OpenSpec.ofChange slabNoneSpec)

/-- ITS FALSE NEIGHBOUR: 'it returns false'. Refute it at one input. -/
def slabNoneWrong : ChangeSpec := { name := "slabNone", fn := fun _ => fun
  | [d1, d2] => { results := [.lit (.bool false)], args := [d1, d2] }
  | _ => none }
def SlabNoneWrongFalsely : Prop := slabNoneRow.holds Try.pinned (OpenSpec.ofChange slabNoneWrong)

/- THE SECOND FORM. 'bulk': how many values and letters a reading holds, each counted each time it is reached (what is shared counts as often as it is met; a slice's spare places count too). A statement '..UptoSaid' is the law's where the arguments, and the package variables that the reading takes, are together of bulk at most 1048576: NARROWER than '..Said'. Prove '..Said' where nothing that the law and all that it calls make is longer than what came in: it says more and counts as full. Else prove '..UptoSaid'. A law counts once. -/
mutual
def uptoBulk {H : Type} : DataW H → Nat
  | .lit (.string bytes) => bytes.length + 1
  | .lit _ => 1
  | .nil => 1
  | .ptr d => uptoBulk d + 1
  | .slice elems spare => uptoBulkAll elems + uptoBulkAll spare + 1
  | .agg parts => uptoBulkAll parts + 1
  | .iface _ d => uptoBulk d + 1
  | .map entries => uptoBulkEntries entries + 1
  | .held _ => 1
def uptoBulkAll {H : Type} : List (DataW H) → Nat
  | [] => 0
  | d :: r => uptoBulk d + uptoBulkAll r
def uptoBulkEntries {H : Type} : List (Lit × DataW H) → Nat
  | [] => 0
  | x :: r => uptoBulkEntry x + uptoBulkEntries r
def uptoBulkEntry {H : Type} : Lit × DataW H → Nat
  | (.string bytes, d) => bytes.length + uptoBulk d + 1
  | (_, d) => uptoBulk d + 1
 end
def uptoSmall : (H : Type) → List (DataW H) → Bool := fun _ ds => decide (uptoBulkAll ds ≤ 1048576)
def OpenSpec.upto (s : _root_.Go.ChangeSpec) : _root_.Go.OpenSpec := { _root_.Go.OpenSpec.ofChange s with cond := some uptoSmall }

/-- 'porterlaw13.SlabAll', WHERE WHAT IT READS IS OF BULK AT MOST 1048576: true; the input reads as it did. -/
def slabAllUptoRow : OpenClaim := { program := "ythfmngpocfofnaa", sum := "1e3a18e2967f4741f865e1e98611868c4606390b03ee7f69ca840abff8a68670", func := "porter/porterlaw13.SlabAll", spec := "slabAll", unfollowed := true, recurses := true, apart := false, narrowed := true }
def SlabAllUptoSaid : Prop := slabAllUptoRow.holds Try.pinned (OpenSpec.upto slabAllSpec)

/-- 'porterlaw13.SlabOnce', WHERE WHAT IT READS IS OF BULK AT MOST 1048576: true; the input reads as it did. -/
def slabOnceUptoRow : OpenClaim := { program := "ythfmngpocfofnaa", sum := "1e3a18e2967f4741f865e1e98611868c4606390b03ee7f69ca840abff8a68670", func := "porter/porterlaw13.SlabOnce", spec := "slabOnce", unfollowed := true, recurses := true, apart := false, narrowed := true }
def SlabOnceUptoSaid : Prop := slabOnceUptoRow.holds Try.pinned (OpenSpec.upto slabOnceSpec)

/-- 'porterlaw13.SlabPlay', WHERE WHAT IT READS IS OF BULK AT MOST 1048576: true; the input reads as it did. -/
def slabPlayUptoRow : OpenClaim := { program := "ythfmngpocfofnaa", sum := "1e3a18e2967f4741f865e1e98611868c4606390b03ee7f69ca840abff8a68670", func := "porter/porterlaw13.SlabPlay", spec := "slabPlay", unfollowed := true, recurses := true, apart := false, narrowed := true }
def SlabPlayUptoSaid : Prop := slabPlayUptoRow.holds Try.pinned (OpenSpec.upto slabPlaySpec)

/-- 'porterlaw13.SlabNone', WHERE WHAT IT READS IS OF BULK AT MOST 1048576: true; the input reads as it did. -/
def slabNoneUptoRow : OpenClaim := { program := "ythfmngpocfofnaa", sum := "1e3a18e2967f4741f865e1e98611868c4606390b03ee7f69ca840abff8a68670", func := "porter/porterlaw13.SlabNone", spec := "slabNone", unfollowed := true, recurses := true, apart := false, narrowed := true }
def SlabNoneUptoSaid : Prop := slabNoneUptoRow.holds Try.pinned (OpenSpec.upto slabNoneSpec)

end Rows
end Go.Proofs.Ythfmngpocfofnaa
