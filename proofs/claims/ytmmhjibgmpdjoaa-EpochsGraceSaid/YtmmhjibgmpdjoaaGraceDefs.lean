/- EpochsGrace's switch, taken out by its number. -/
import Derived.Test.YtmmhjibgmpdjoaaGracePlain
namespace Go.Proofs.Ytmmhjibgmpdjoaa
open Go
def findBlock (n : Nat) : Code → Option Code
  | .block m c => if m = n then some (.block m c) else findBlock n c
  | .seq a b => match findBlock n a with
    | some c => some c
    | none => findBlock n b
  | .loop c => findBlock n c
  | .scope c => findBlock n c
  | .cond _ a b => match findBlock n a with
    | some c => some c
    | none => findBlock n b
  | _ => none
/-- It ends by running through. -/
def onlyN (Nx : Act → World → Prop) : Exit → Act → World → Prop
  | .normal, a, w => Nx a w
  | _, _, _ => False
noncomputable def graceSwitch : Code := (Try.f5.body.bind (findBlock 2)).getD .skip
end Go.Proofs.Ytmmhjibgmpdjoaa
