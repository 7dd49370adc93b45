/-
  NARROWER THAN 'FOR EVERY INPUT', by the rows' own cells (each row's printed sentence says how): TrackRun: laid · TrackStands: laid · TrackBack: laid · TrackTell: laid.
  DERIVED. THE GIVEN ROWS OF THIS SEAT. 4 by the template 'for every input the law returns true; each argument reads behind the call as it read before'; 0 by the template 'total and deterministic' (their statements: YtmgipmpnejphoaaDoorTotals.lean).
  GIVEN WITH THE SEED: the statements are not yours to turn. If you find one false, say at which input.
  Laid BY PROGRAM, IN A SANDBOX (cutbox-rows.mjs): the forced cells as the released guide's own fill.sh prints them over the translation 2468996ea7a1cdf3… (all of the seat's roots in one cut). By AI agents, Wed Nov 11 2026. No macro, syntax, notation, axiom, sorry.
-/
import Derived.Test.YtmgipmpnejphoaaDoorChecked
import GoSem.Claim
import GoSem.ClaimJoined
import GoSem.ClaimMapViews
import Derived.JoinedTies
import Derived.KernelRfl
namespace Go.Proofs.YtmgipmpnejphoaaDoor
/- THE CELL 'sum', in the pinned program and in every row, IS THE sha256 OF THE DUMP (.gsa) THAT YtmgipmpnejphoaaDoorProg.lean LOADS. Nothing in Lean hashes anything: it is a label: what it is worth is what the hold of that sum in a sandbox is worth. -/
noncomputable def Tryd.pinned : Pinned := { name := "ytmgipmpnejphoaadoor", sum := "2468996ea7a1cdf33e2883361628e09c4d30b73f3001c9806d6cb201124c9e64", checked := Tryd.checked }
namespace Rows
def none {H : Type} : Left H := { results := [], args := [] }

/- WHAT THE LISTED PACKAGE-LEVEL VARIABLES READ AS WHEN THE CALL BEGINS. Each datum BY PROGRAM (the guide's laid-datum.mjs) off the statement by which the dump's own 'gosem.cut.vars' lays the variable. In a bare row this is a premise. The card (YtmgipmpnejphoaaDoorCards.lean) ties it to the program's text. -/
def laid_porter_track_lasts {H : Type} : DataW H := .agg [.agg [.lit (.int .i64 0), .lit (.int .i64 0), .lit (.int .i64 0), .lit (.int .i64 0), .lit (.int .i64 0), .lit (.int .i64 0), .lit (.int .i64 0), .lit (.int .i64 0)], .agg [.lit (.int .i64 0), .lit (.int .i64 120), .lit (.int .i64 300), .lit (.int .i64 0), .lit (.int .i64 0), .lit (.int .i64 0), .lit (.int .i64 0), .lit (.int .i64 0)], .agg [.lit (.int .i64 0), .lit (.int .i64 60), .lit (.int .i64 60), .lit (.int .i64 0), .lit (.int .i64 0), .lit (.int .i64 0), .lit (.int .i64 0), .lit (.int .i64 0)], .agg [.lit (.int .i64 0), .lit (.int .i64 240), .lit (.int .i64 240), .lit (.int .i64 7440), .lit (.int .i64 240), .lit (.int .i64 240), .lit (.int .i64 240), .lit (.int .i64 240)]]

/-- 'porterlaw17.TrackRun': WHATEVER THE INPUT: true; the input reads as it did. -/
def trackRunSpec : ChangeSpec := { name := "trackRun", fn := fun _ => fun
  | [d1, d2] => { results := [.lit (.bool true)], args := [d1, d2] }
  | _ => none }
def trackRunRow : OpenClaim := { program := "ytmgipmpnejphoaadoor", sum := "2468996ea7a1cdf33e2883361628e09c4d30b73f3001c9806d6cb201124c9e64", func := "porter/porterlaw17.TrackRun", spec := "trackRun", named := ["porter/track.lasts"], apart := false, laid := [("porter/track.lasts", laid_porter_track_lasts)] }
def TrackRunSaid : Prop := trackRunRow.holds Tryd.pinned (OpenSpec.ofChange trackRunSpec)

/-- ITS FALSE NEIGHBOUR: 'it returns false'. Refute it at one input. -/
def trackRunWrong : ChangeSpec := { name := "trackRun", fn := fun _ => fun
  | [d1, d2] => { results := [.lit (.bool false)], args := [d1, d2] }
  | _ => none }
def TrackRunWrongFalsely : Prop := trackRunRow.holds Tryd.pinned (OpenSpec.ofChange trackRunWrong)

/-- 'porterlaw17.TrackStands': WHATEVER THE INPUT: true; the input reads as it did. -/
def trackStandsSpec : ChangeSpec := { name := "trackStands", fn := fun _ => fun
  | [d] => { results := [.lit (.bool true)], args := [d] }
  | _ => none }
def trackStandsRow : OpenClaim := { program := "ytmgipmpnejphoaadoor", sum := "2468996ea7a1cdf33e2883361628e09c4d30b73f3001c9806d6cb201124c9e64", func := "porter/porterlaw17.TrackStands", spec := "trackStands", named := ["porter/track.lasts"], apart := false, laid := [("porter/track.lasts", laid_porter_track_lasts)] }
def TrackStandsSaid : Prop := trackStandsRow.holds Tryd.pinned (OpenSpec.ofChange trackStandsSpec)

/-- ITS FALSE NEIGHBOUR: 'it returns false'. Refute it at one input. -/
def trackStandsWrong : ChangeSpec := { name := "trackStands", fn := fun _ => fun
  | [d] => { results := [.lit (.bool false)], args := [d] }
  | _ => none }
def TrackStandsWrongFalsely : Prop := trackStandsRow.holds Tryd.pinned (OpenSpec.ofChange trackStandsWrong)

/-- 'porterlaw17.TrackBack': WHATEVER THE INPUT: true; the input reads as it did. -/
def trackBackSpec : ChangeSpec := { name := "trackBack", fn := fun _ => fun
  | [d1, d2] => { results := [.lit (.bool true)], args := [d1, d2] }
  | _ => none }
def trackBackRow : OpenClaim := { program := "ytmgipmpnejphoaadoor", sum := "2468996ea7a1cdf33e2883361628e09c4d30b73f3001c9806d6cb201124c9e64", func := "porter/porterlaw17.TrackBack", spec := "trackBack", named := ["porter/track.lasts"], apart := false, laid := [("porter/track.lasts", laid_porter_track_lasts)] }
def TrackBackSaid : Prop := trackBackRow.holds Tryd.pinned (OpenSpec.ofChange trackBackSpec)

/-- ITS FALSE NEIGHBOUR: 'it returns false'. Refute it at one input. -/
def trackBackWrong : ChangeSpec := { name := "trackBack", fn := fun _ => fun
  | [d1, d2] => { results := [.lit (.bool false)], args := [d1, d2] }
  | _ => none }
def TrackBackWrongFalsely : Prop := trackBackRow.holds Tryd.pinned (OpenSpec.ofChange trackBackWrong)

/-- 'porterlaw17.TrackTell': WHATEVER THE INPUT: true; the input reads as it did. -/
def trackTellSpec : ChangeSpec := { name := "trackTell", fn := fun _ => fun
  | [d1, d2, d3] => { results := [.lit (.bool true)], args := [d1, d2, d3] }
  | _ => none }
def trackTellRow : OpenClaim := { program := "ytmgipmpnejphoaadoor", sum := "2468996ea7a1cdf33e2883361628e09c4d30b73f3001c9806d6cb201124c9e64", func := "porter/porterlaw17.TrackTell", spec := "trackTell", named := ["porter/track.lasts"], apart := false, laid := [("porter/track.lasts", laid_porter_track_lasts)] }
def TrackTellSaid : Prop := trackTellRow.holds Tryd.pinned (OpenSpec.ofChange trackTellSpec)

/-- ITS FALSE NEIGHBOUR: 'it returns false'. Refute it at one input. -/
def trackTellWrong : ChangeSpec := { name := "trackTell", fn := fun _ => fun
  | [d1, d2, d3] => { results := [.lit (.bool false)], args := [d1, d2, d3] }
  | _ => none }
def TrackTellWrongFalsely : Prop := trackTellRow.holds Tryd.pinned (OpenSpec.ofChange trackTellWrong)

/- THE SECOND FORM. 'bulk': how many values and letters a reading holds, each counted each time it is reached (what is shared counts as often as it is met; a slice's spare places count too). A statement '..UptoSaid' is the law's where the arguments, and the package variables that the reading takes, are together of bulk at most 1048576: NARROWER than '..Said'. Prove '..Said' where nothing that the law and all that it calls make is longer than what came in: it says more and counts as full. Else prove '..UptoSaid'. A law counts once. -/
mutual
def uptoBulk {H : Type} : DataW H → Nat
  | .lit (.string bytes) => bytes.length + 1
  | .lit _ => 1
  | .nil => 1
  | .ptr d => uptoBulk d + 1
  | .slice elems spare => uptoBulkAll elems + uptoBulkAll spare + 1
  | .agg parts => uptoBulkAll parts + 1
  | .iface _ d => uptoBulk d + 1
  | .map entries => uptoBulkEntries entries + 1
  | .held _ => 1
def uptoBulkAll {H : Type} : List (DataW H) → Nat
  | [] => 0
  | d :: r => uptoBulk d + uptoBulkAll r
def uptoBulkEntries {H : Type} : List (Lit × DataW H) → Nat
  | [] => 0
  | x :: r => uptoBulkEntry x + uptoBulkEntries r
def uptoBulkEntry {H : Type} : Lit × DataW H → Nat
  | (.string bytes, d) => bytes.length + uptoBulk d + 1
  | (_, d) => uptoBulk d + 1
 end
def uptoSmall : (H : Type) → List (DataW H) → Bool := fun _ ds => decide (uptoBulkAll ds ≤ 1048576)
def OpenSpec.upto (s : _root_.Go.ChangeSpec) : _root_.Go.OpenSpec := { _root_.Go.OpenSpec.ofChange s with cond := some uptoSmall }

/-- 'porterlaw17.TrackRun', WHERE WHAT IT READS IS OF BULK AT MOST 1048576: true; the input reads as it did. -/
def trackRunUptoRow : OpenClaim := { program := "ytmgipmpnejphoaadoor", sum := "2468996ea7a1cdf33e2883361628e09c4d30b73f3001c9806d6cb201124c9e64", func := "porter/porterlaw17.TrackRun", spec := "trackRun", named := ["porter/track.lasts"], apart := false, laid := [("porter/track.lasts", laid_porter_track_lasts)], narrowed := true }
def TrackRunUptoSaid : Prop := trackRunUptoRow.holds Tryd.pinned (OpenSpec.upto trackRunSpec)

/-- 'porterlaw17.TrackStands', WHERE WHAT IT READS IS OF BULK AT MOST 1048576: true; the input reads as it did. -/
def trackStandsUptoRow : OpenClaim := { program := "ytmgipmpnejphoaadoor", sum := "2468996ea7a1cdf33e2883361628e09c4d30b73f3001c9806d6cb201124c9e64", func := "porter/porterlaw17.TrackStands", spec := "trackStands", named := ["porter/track.lasts"], apart := false, laid := [("porter/track.lasts", laid_porter_track_lasts)], narrowed := true }
def TrackStandsUptoSaid : Prop := trackStandsUptoRow.holds Tryd.pinned (OpenSpec.upto trackStandsSpec)

/-- 'porterlaw17.TrackBack', WHERE WHAT IT READS IS OF BULK AT MOST 1048576: true; the input reads as it did. -/
def trackBackUptoRow : OpenClaim := { program := "ytmgipmpnejphoaadoor", sum := "2468996ea7a1cdf33e2883361628e09c4d30b73f3001c9806d6cb201124c9e64", func := "porter/porterlaw17.TrackBack", spec := "trackBack", named := ["porter/track.lasts"], apart := false, laid := [("porter/track.lasts", laid_porter_track_lasts)], narrowed := true }
def TrackBackUptoSaid : Prop := trackBackUptoRow.holds Tryd.pinned (OpenSpec.upto trackBackSpec)

/-- 'porterlaw17.TrackTell', WHERE WHAT IT READS IS OF BULK AT MOST 1048576: true; the input reads as it did. -/
def trackTellUptoRow : OpenClaim := { program := "ytmgipmpnejphoaadoor", sum := "2468996ea7a1cdf33e2883361628e09c4d30b73f3001c9806d6cb201124c9e64", func := "porter/porterlaw17.TrackTell", spec := "trackTell", named := ["porter/track.lasts"], apart := false, laid := [("porter/track.lasts", laid_porter_track_lasts)], narrowed := true }
def TrackTellUptoSaid : Prop := trackTellUptoRow.holds Tryd.pinned (OpenSpec.upto trackTellSpec)

end Rows
end Go.Proofs.YtmgipmpnejphoaaDoor
