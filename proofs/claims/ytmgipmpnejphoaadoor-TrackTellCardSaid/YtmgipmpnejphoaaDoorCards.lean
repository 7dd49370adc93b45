/-
  DERIVED. GIVEN WITH THE SEED: THE CARDS: each row of YtmgipmpnejphoaaDoorRows.lean that lists a variable, with what it lists TIED to the program's text (the seventh form; the later family's looks); each row that meets fmt, with fmt's text TOLD by the authors' own Lean function (tested against real Go, not proved from fmt's source: count such statements apart). THE CARD IS WHAT COUNTS. Prove the row's statement (the work); the ties are given (YtmgipmpnejphoaaDoorTie.lean); close each card by the builder's one call (the guide's Derived/Test/ToyasCard.lean, 'card_holds'). Laid BY PROGRAM, IN A SANDBOX (cutbox-door.mjs). By AI agents, Wed Nov 11 2026. No macro, syntax, notation, axiom, sorry.
-/
import Derived.Test.YtmgipmpnejphoaaDoorRows
import GoSem.ClaimSeven
namespace Go.Proofs.YtmgipmpnejphoaaDoor
namespace Rows

/-- THE TIED CARD OF 'porterlaw17.TrackRun'. -/
def trackRunCard : Claim7 := { stood := { row := trackRunRow, standIns := [], harness := (true, "55684f2e1a1b030f8377400ecf41b3305cf96ed89a87deb57cd1282f86fcac68"), looks := false }, kinds := [], alts := [], laidByText := true, laidKinds := [.data], laidTests := true, laidLooks := .later }
def TrackRunCardSaid : Prop := Claim7.holds Tryd.pinned (.plain (OpenSpec.ofChange trackRunSpec)) trackRunCard

/-- THE TIED CARD OF 'porterlaw17.TrackStands'. -/
def trackStandsCard : Claim7 := { stood := { row := trackStandsRow, standIns := [], harness := (true, "55684f2e1a1b030f8377400ecf41b3305cf96ed89a87deb57cd1282f86fcac68"), looks := false }, kinds := [], alts := [], laidByText := true, laidKinds := [.data], laidTests := true, laidLooks := .later }
def TrackStandsCardSaid : Prop := Claim7.holds Tryd.pinned (.plain (OpenSpec.ofChange trackStandsSpec)) trackStandsCard

/-- THE TIED CARD OF 'porterlaw17.TrackBack'. -/
def trackBackCard : Claim7 := { stood := { row := trackBackRow, standIns := [], harness := (true, "55684f2e1a1b030f8377400ecf41b3305cf96ed89a87deb57cd1282f86fcac68"), looks := false }, kinds := [], alts := [], laidByText := true, laidKinds := [.data], laidTests := true, laidLooks := .later }
def TrackBackCardSaid : Prop := Claim7.holds Tryd.pinned (.plain (OpenSpec.ofChange trackBackSpec)) trackBackCard

/-- THE TIED CARD OF 'porterlaw17.TrackTell'. -/
def trackTellCard : Claim7 := { stood := { row := trackTellRow, standIns := [], harness := (true, "55684f2e1a1b030f8377400ecf41b3305cf96ed89a87deb57cd1282f86fcac68"), looks := false }, kinds := [], alts := [], laidByText := true, laidKinds := [.data], laidTests := true, laidLooks := .later }
def TrackTellCardSaid : Prop := Claim7.holds Tryd.pinned (.plain (OpenSpec.ofChange trackTellSpec)) trackTellCard

/-- THE SECOND FORM's CARD OF 'porterlaw17.TrackRun'. -/
def trackRunUptoCard : Claim7 := { stood := { row := trackRunUptoRow, standIns := [], harness := (true, "55684f2e1a1b030f8377400ecf41b3305cf96ed89a87deb57cd1282f86fcac68"), looks := false }, kinds := [], alts := [], laidByText := true, laidKinds := [.data], laidTests := true, laidLooks := .later }
def TrackRunUptoCardSaid : Prop := Claim7.holds Tryd.pinned (.plain (OpenSpec.upto trackRunSpec)) trackRunUptoCard

/-- THE SECOND FORM's CARD OF 'porterlaw17.TrackStands'. -/
def trackStandsUptoCard : Claim7 := { stood := { row := trackStandsUptoRow, standIns := [], harness := (true, "55684f2e1a1b030f8377400ecf41b3305cf96ed89a87deb57cd1282f86fcac68"), looks := false }, kinds := [], alts := [], laidByText := true, laidKinds := [.data], laidTests := true, laidLooks := .later }
def TrackStandsUptoCardSaid : Prop := Claim7.holds Tryd.pinned (.plain (OpenSpec.upto trackStandsSpec)) trackStandsUptoCard

/-- THE SECOND FORM's CARD OF 'porterlaw17.TrackBack'. -/
def trackBackUptoCard : Claim7 := { stood := { row := trackBackUptoRow, standIns := [], harness := (true, "55684f2e1a1b030f8377400ecf41b3305cf96ed89a87deb57cd1282f86fcac68"), looks := false }, kinds := [], alts := [], laidByText := true, laidKinds := [.data], laidTests := true, laidLooks := .later }
def TrackBackUptoCardSaid : Prop := Claim7.holds Tryd.pinned (.plain (OpenSpec.upto trackBackSpec)) trackBackUptoCard

/-- THE SECOND FORM's CARD OF 'porterlaw17.TrackTell'. -/
def trackTellUptoCard : Claim7 := { stood := { row := trackTellUptoRow, standIns := [], harness := (true, "55684f2e1a1b030f8377400ecf41b3305cf96ed89a87deb57cd1282f86fcac68"), looks := false }, kinds := [], alts := [], laidByText := true, laidKinds := [.data], laidTests := true, laidLooks := .later }
def TrackTellUptoCardSaid : Prop := Claim7.holds Tryd.pinned (.plain (OpenSpec.upto trackTellSpec)) trackTellUptoCard
end Rows
end Go.Proofs.YtmgipmpnejphoaaDoor
