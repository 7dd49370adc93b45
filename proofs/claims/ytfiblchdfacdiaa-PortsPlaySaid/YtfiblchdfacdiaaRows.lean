/-
  No cell of these rows narrows 'for every input' (looked for: loops, veiled, ifaces, maps, wideKeys, modest, calm, conditions, laid).
  DERIVED. THE GIVEN ROWS OF THIS SEAT. 5 by the template 'for every input the law returns true; each argument reads behind the call as it read before'; 0 by the template 'total and deterministic' (their statements: YtfiblchdfacdiaaTotals.lean).
  GIVEN WITH THE SEED: the statements are not yours to turn. If you find one false, say at which input.
  Laid BY PROGRAM, IN A SANDBOX (cutbox-rows.mjs): the forced cells as the released guide's own fill.sh prints them over the translation c186324ec8a72a9b… (all of the seat's roots in one cut). By AI agents, Wed Nov 11 2026. No macro, syntax, notation, axiom, sorry.
-/
import Derived.Test.YtfiblchdfacdiaaChecked
import GoSem.Claim
import GoSem.ClaimJoined
import GoSem.ClaimMapViews
import Derived.JoinedTies
import Derived.KernelRfl
namespace Go.Proofs.Ytfiblchdfacdiaa
/- THE CELL 'sum', in the pinned program and in every row, IS THE sha256 OF THE DUMP (.gsa) THAT YtfiblchdfacdiaaProg.lean LOADS. Nothing in Lean hashes anything: it is a label: what it is worth is what the hold of that sum in a sandbox is worth. -/
noncomputable def Try.pinned : Pinned := { name := "ytfiblchdfacdiaa", sum := "c186324ec8a72a9b2ff33269b8065092b249f9969fd6c797819dabf096e363c4", checked := Try.checked }
namespace Rows
def none {H : Type} : Left H := { results := [], args := [] }

/-- 'porterlaw16.PortsTried': WHATEVER THE INPUT: true; the input reads as it did. -/
def portsTriedSpec : ChangeSpec := { name := "portsTried", fn := fun _ => fun
  | [d1, d2] => { results := [.lit (.bool true)], args := [d1, d2] }
  | _ => none }
def portsTriedRow : OpenClaim := { program := "ytfiblchdfacdiaa", sum := "c186324ec8a72a9b2ff33269b8065092b249f9969fd6c797819dabf096e363c4", func := "porter/porterlaw16.PortsTried", spec := "portsTried", unfollowed := true, recurses := true, plainKeys := false, apart := false }
def PortsTriedSaid : Prop := portsTriedRow.holds Try.pinned (OpenSpec.ofChange portsTriedSpec)

/-- ITS FALSE NEIGHBOUR: 'it returns false'. Refute it at one input. -/
def portsTriedWrong : ChangeSpec := { name := "portsTried", fn := fun _ => fun
  | [d1, d2] => { results := [.lit (.bool false)], args := [d1, d2] }
  | _ => none }
def PortsTriedWrongFalsely : Prop := portsTriedRow.holds Try.pinned (OpenSpec.ofChange portsTriedWrong)

/-- 'porterlaw16.PortsEven': WHATEVER THE INPUT: true; the input reads as it did. -/
def portsEvenSpec : ChangeSpec := { name := "portsEven", fn := fun _ => fun
  | [d1, d2] => { results := [.lit (.bool true)], args := [d1, d2] }
  | _ => none }
def portsEvenRow : OpenClaim := { program := "ytfiblchdfacdiaa", sum := "c186324ec8a72a9b2ff33269b8065092b249f9969fd6c797819dabf096e363c4", func := "porter/porterlaw16.PortsEven", spec := "portsEven", unfollowed := true, recurses := true, plainKeys := false, apart := false }
def PortsEvenSaid : Prop := portsEvenRow.holds Try.pinned (OpenSpec.ofChange portsEvenSpec)

/-- ITS FALSE NEIGHBOUR: 'it returns false'. Refute it at one input. -/
def portsEvenWrong : ChangeSpec := { name := "portsEven", fn := fun _ => fun
  | [d1, d2] => { results := [.lit (.bool false)], args := [d1, d2] }
  | _ => none }
def PortsEvenWrongFalsely : Prop := portsEvenRow.holds Try.pinned (OpenSpec.ofChange portsEvenWrong)

/-- 'porterlaw16.PortsOwn': WHATEVER THE INPUT: true; the input reads as it did. -/
def portsOwnSpec : ChangeSpec := { name := "portsOwn", fn := fun _ => fun
  | [d1, d2] => { results := [.lit (.bool true)], args := [d1, d2] }
  | _ => none }
def portsOwnRow : OpenClaim := { program := "ytfiblchdfacdiaa", sum := "c186324ec8a72a9b2ff33269b8065092b249f9969fd6c797819dabf096e363c4", func := "porter/porterlaw16.PortsOwn", spec := "portsOwn", unfollowed := true, recurses := true, plainKeys := false, apart := false }
def PortsOwnSaid : Prop := portsOwnRow.holds Try.pinned (OpenSpec.ofChange portsOwnSpec)

/-- ITS FALSE NEIGHBOUR: 'it returns false'. Refute it at one input. -/
def portsOwnWrong : ChangeSpec := { name := "portsOwn", fn := fun _ => fun
  | [d1, d2] => { results := [.lit (.bool false)], args := [d1, d2] }
  | _ => none }
def PortsOwnWrongFalsely : Prop := portsOwnRow.holds Try.pinned (OpenSpec.ofChange portsOwnWrong)

/-- 'porterlaw16.PortsPlay': WHATEVER THE INPUT: true; the input reads as it did. -/
def portsPlaySpec : ChangeSpec := { name := "portsPlay", fn := fun _ => fun
  | [d] => { results := [.lit (.bool true)], args := [d] }
  | _ => none }
def portsPlayRow : OpenClaim := { program := "ytfiblchdfacdiaa", sum := "c186324ec8a72a9b2ff33269b8065092b249f9969fd6c797819dabf096e363c4", func := "porter/porterlaw16.PortsPlay", spec := "portsPlay", unfollowed := true, recurses := true, plainKeys := false, apart := false }
def PortsPlaySaid : Prop := portsPlayRow.holds Try.pinned (OpenSpec.ofChange portsPlaySpec)

/-- ITS FALSE NEIGHBOUR: 'it returns false'. Refute it at one input. -/
def portsPlayWrong : ChangeSpec := { name := "portsPlay", fn := fun _ => fun
  | [d] => { results := [.lit (.bool false)], args := [d] }
  | _ => none }
def PortsPlayWrongFalsely : Prop := portsPlayRow.holds Try.pinned (OpenSpec.ofChange portsPlayWrong)

/-- 'porterlaw16.PortsNone': WHATEVER THE INPUT: true; the input reads as it did. -/
def portsNoneSpec : ChangeSpec := { name := "portsNone", fn := fun _ => fun
  | [d] => { results := [.lit (.bool true)], args := [d] }
  | _ => none }
def portsNoneRow : OpenClaim := { program := "ytfiblchdfacdiaa", sum := "c186324ec8a72a9b2ff33269b8065092b249f9969fd6c797819dabf096e363c4", func := "porter/porterlaw16.PortsNone", spec := "portsNone", unfollowed := true, recurses := true, plainKeys := false, apart := false }
def PortsNoneSaid : Prop := portsNoneRow.holds Try.pinned (OpenSpec.ofChange portsNoneSpec)

/-- ITS FALSE NEIGHBOUR: 'it returns false'. Refute it at one input. -/
def portsNoneWrong : ChangeSpec := { name := "portsNone", fn := fun _ => fun
  | [d] => { results := [.lit (.bool false)], args := [d] }
  | _ => none }
def PortsNoneWrongFalsely : Prop := portsNoneRow.holds Try.pinned (OpenSpec.ofChange portsNoneWrong)

/- THE SECOND FORM. 'bulk': how many values and letters a reading holds, each counted each time it is reached (what is shared counts as often as it is met; a slice's spare places count too). A statement '..UptoSaid' is the law's where the arguments, and the package variables that the reading takes, are together of bulk at most 1048576: NARROWER than '..Said'. Prove '..Said' where nothing that the law and all that it calls make is longer than what came in: it says more and counts as full. Else prove '..UptoSaid'. A law counts once. -/
mutual
def uptoBulk {H : Type} : DataW H → Nat
  | .lit (.string bytes) => bytes.length + 1
  | .lit _ => 1
  | .nil => 1
  | .ptr d => uptoBulk d + 1
  | .slice elems spare => uptoBulkAll elems + uptoBulkAll spare + 1
  | .agg parts => uptoBulkAll parts + 1
  | .iface _ d => uptoBulk d + 1
  | .map entries => uptoBulkEntries entries + 1
  | .held _ => 1
def uptoBulkAll {H : Type} : List (DataW H) → Nat
  | [] => 0
  | d :: r => uptoBulk d + uptoBulkAll r
def uptoBulkEntries {H : Type} : List (Lit × DataW H) → Nat
  | [] => 0
  | x :: r => uptoBulkEntry x + uptoBulkEntries r
def uptoBulkEntry {H : Type} : Lit × DataW H → Nat
  | (.string bytes, d) => bytes.length + uptoBulk d + 1
  | (_, d) => uptoBulk d + 1
 end
def uptoSmall : (H : Type) → List (DataW H) → Bool := fun _ ds => decide (uptoBulkAll ds ≤ 1048576)
def OpenSpec.upto (s : _root_.Go.ChangeSpec) : _root_.Go.OpenSpec := { _root_.Go.OpenSpec.ofChange s with cond := some uptoSmall }

/-- 'porterlaw16.PortsTried', WHERE WHAT IT READS IS OF BULK AT MOST 1048576: true; the input reads as it did. -/
def portsTriedUptoRow : OpenClaim := { program := "ytfiblchdfacdiaa", sum := "c186324ec8a72a9b2ff33269b8065092b249f9969fd6c797819dabf096e363c4", func := "porter/porterlaw16.PortsTried", spec := "portsTried", unfollowed := true, recurses := true, plainKeys := false, apart := false, narrowed := true }
def PortsTriedUptoSaid : Prop := portsTriedUptoRow.holds Try.pinned (OpenSpec.upto portsTriedSpec)

/-- 'porterlaw16.PortsEven', WHERE WHAT IT READS IS OF BULK AT MOST 1048576: true; the input reads as it did. -/
def portsEvenUptoRow : OpenClaim := { program := "ytfiblchdfacdiaa", sum := "c186324ec8a72a9b2ff33269b8065092b249f9969fd6c797819dabf096e363c4", func := "porter/porterlaw16.PortsEven", spec := "portsEven", unfollowed := true, recurses := true, plainKeys := false, apart := false, narrowed := true }
def PortsEvenUptoSaid : Prop := portsEvenUptoRow.holds Try.pinned (OpenSpec.upto portsEvenSpec)

/-- 'porterlaw16.PortsOwn', WHERE WHAT IT READS IS OF BULK AT MOST 1048576: true; the input reads as it did. -/
def portsOwnUptoRow : OpenClaim := { program := "ytfiblchdfacdiaa", sum := "c186324ec8a72a9b2ff33269b8065092b249f9969fd6c797819dabf096e363c4", func := "porter/porterlaw16.PortsOwn", spec := "portsOwn", unfollowed := true, recurses := true, plainKeys := false, apart := false, narrowed := true }
def PortsOwnUptoSaid : Prop := portsOwnUptoRow.holds Try.pinned (OpenSpec.upto portsOwnSpec)

/-- 'porterlaw16.PortsPlay', WHERE WHAT IT READS IS OF BULK AT MOST 1048576: true; the input reads as it did. -/
def portsPlayUptoRow : OpenClaim := { program := "ytfiblchdfacdiaa", sum := "c186324ec8a72a9b2ff33269b8065092b249f9969fd6c797819dabf096e363c4", func := "porter/porterlaw16.PortsPlay", spec := "portsPlay", unfollowed := true, recurses := true, plainKeys := false, apart := false, narrowed := true }
def PortsPlayUptoSaid : Prop := portsPlayUptoRow.holds Try.pinned (OpenSpec.upto portsPlaySpec)

/-- 'porterlaw16.PortsNone', WHERE WHAT IT READS IS OF BULK AT MOST 1048576: true; the input reads as it did. -/
def portsNoneUptoRow : OpenClaim := { program := "ytfiblchdfacdiaa", sum := "c186324ec8a72a9b2ff33269b8065092b249f9969fd6c797819dabf096e363c4", func := "porter/porterlaw16.PortsNone", spec := "portsNone", unfollowed := true, recurses := true, plainKeys := false, apart := false, narrowed := true }
def PortsNoneUptoSaid : Prop := portsNoneUptoRow.holds Try.pinned (OpenSpec.upto portsNoneSpec)

end Rows
end Go.Proofs.Ytfiblchdfacdiaa
