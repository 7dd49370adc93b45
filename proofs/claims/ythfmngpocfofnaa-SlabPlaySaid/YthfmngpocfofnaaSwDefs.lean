/- Pieces of the code, taken out by their numbers. -/
import Derived.Test.YthfmngpocfofnaaActs
namespace Go.Proofs.Ythfmngpocfofnaa
open Go
/-- The block of that number. -/
def findBlock (n : Nat) : Code → Option Code
  | .block m c => if m = n then some (.block m c) else findBlock n c
  | .seq a b => match findBlock n a with
    | some c => some c
    | none => findBlock n b
  | .loop c => findBlock n c
  | .scope c => findBlock n c
  | .cond _ a b => match findBlock n a with
    | some c => some c
    | none => findBlock n b
  | _ => none
noncomputable def onceSwitch : Code := (Try.f4.body.bind (findBlock 2)).getD .skip

/-- A handle that is not over yet leads to no slot that is gone. -/
theorem Md.Inv.not_gone {n i k : Nat} {st : Md.St} {H : List (Nat × Nat)} {O : List Bool} {G : Nat → Bool} (h : Md.Inv n st H O G i) (hk : k < H.length) (hO : O.getD k true = false) : G (H.getD k (0, 0)).1 = false := by
  have hs := h.slots k hk
  have hl := h.live k hk
  rw [hO, Md.liveB_nat (by rw [h.len]; exact hs)] at hl
  simp only [Bool.not_false, Bool.and_eq_true, beq_iff_eq] at hl
  rw [h.gone _ hs, hl.1]
  rfl
/-- A slot retired: what is gone afterwards. -/
theorem goneStep {G : Nat → Bool} {b q : Bool} {s : Nat} (h : (G s || !b) = q) (j : Nat) : (if j = s then q else G j) = (if j = s then (G j || (2 == 2 && !b)) else G j) := by
  by_cases e : j = s
  · subst e
    rw [if_pos rfl, if_pos rfl, ← h]
    rfl
  · rw [if_neg e, if_neg e]
end Go.Proofs.Ythfmngpocfofnaa
