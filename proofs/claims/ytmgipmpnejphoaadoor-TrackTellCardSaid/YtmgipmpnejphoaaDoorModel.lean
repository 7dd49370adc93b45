/- What track answers, in plain Lean. -/
import Derived.Test.YtmgipmpnejphoaaDoorBase
import Derived.Test.YtmgipmpnejphoaaDoorRows
namespace Go.Proofs.YtmgipmpnejphoaaDoor
open Go Go.RowKit Go.Deep

def hasB (fl : Nat) (n : Int) : Bool := bits .and .u8 fl n != 0
def timeoutI (f s : Int) : Int :=
  if f = 1 then (if s = 1 then 120 else if s = 2 then 300 else 0)
  else if f = 2 then (if s = 1 then 60 else if s = 2 then 60 else 0)
  else if f = 3 then (if s = 3 then 7440 else if 1 ≤ s ∧ s ≤ 7 then 240 else 0) else 0
def mayB (f s : Int) : Bool := decide (0 < timeoutI f s)
def synB (fl : Nat) : Bool := bits .and .u8 fl 23 == 2
def okF (f : Int) (fl : Nat) : Bool := f == 1 || f == 2 || (f == 3 && synB fl)
def endsI (st : Int) (back : Bool) : Int := if back then (if st = 4 ∨ st = 6 then 6 else 5) else (if st = 5 ∨ st = 6 then 6 else 4)
def trackedI (st : Int) (back : Bool) (fl : Nat) : Int :=
  if hasB fl 4 then 7 else if st = 7 then 7 else if hasB fl 1 then endsI st back
  else if st = 1 ∧ back = true ∧ hasB fl 2 = true then 2
  else if st = 2 ∧ back = false ∧ hasB fl 16 = true ∧ hasB fl 2 = false then 3 else st
def nextI (f st : Int) (back : Bool) (fl : Nat) : Int := if mayB f st then (if f = 3 then trackedI st back fl else if back then 2 else st) else 0
def earlyB (f st : Int) : Bool := mayB f st && (if f = 3 then st != 3 else st == 1)
def flowI (p : Nat) : Int := if p = 1 then 2 else if p = 6 then 3 else if p = 17 then 1 else 0

theorem flag_is (n : Int) (hn : n = 1 ∨ n = 2 ∨ n = 4 ∨ n = 16) (fl : Nat) (hf : fl < 256) : ((fl : Int) / n % 2 == 1) = hasB fl n := by
  have h1 : ∀ x : Fin 256, (((x.val : Nat) : Int) / 1 % 2 == 1) = hasB x.val 1 := by decide +kernel
  have h2 : ∀ x : Fin 256, (((x.val : Nat) : Int) / 2 % 2 == 1) = hasB x.val 2 := by decide +kernel
  have h4 : ∀ x : Fin 256, (((x.val : Nat) : Int) / 4 % 2 == 1) = hasB x.val 4 := by decide +kernel
  have h16 : ∀ x : Fin 256, (((x.val : Nat) : Int) / 16 % 2 == 1) = hasB x.val 16 := by decide +kernel
  rcases hn with rfl | rfl | rfl | rfl
  · exact h1 ⟨fl, hf⟩
  · exact h2 ⟨fl, hf⟩
  · exact h4 ⟨fl, hf⟩
  · exact h16 ⟨fl, hf⟩
theorem syn_is (fl : Nat) (hf : fl < 256) : synB fl = (hasB fl 2 && !hasB fl 1 && !hasB fl 4 && !hasB fl 16) := by
  have h : ∀ x : Fin 256, synB x.val = (hasB x.val 2 && !hasB x.val 1 && !hasB x.val 4 && !hasB x.val 16) := by decide +kernel
  exact h ⟨fl, hf⟩
theorem may_range {f s : Int} (h : mayB f s = true) : (f = 1 ∧ (s = 1 ∨ s = 2)) ∨ (f = 2 ∧ (s = 1 ∨ s = 2)) ∨ (f = 3 ∧ 1 ≤ s ∧ s ≤ 7) := by
  simp only [mayB, decide_eq_true_eq] at h
  unfold timeoutI at h
  repeat' split at h
  all_goals omega
theorem timeout_nn (f s : Int) : 0 ≤ timeoutI f s := by
  unfold timeoutI
  repeat' split
  all_goals omega

/-- The table, in memory. -/
def Tab (w : World) : Prop := 0 < w.heap.size ∧ ∀ f s : Nat, f < 4 → s < 8 → w.cell? ⟨0, f * 8 + s, none⟩ = some (.int .i64 (timeoutI f s))
def NoS (_ : Nat) : Prop := False
def Told (v : Value) (w : World) (e : Ending) (w' : World) : Prop := e = .returned v ∧ Upto NoS w w'
abbrev sv (back : Bool) (fl : Nat) : Value := .agg #[.bool back, .int .u8 fl]
theorem Tab.upto {w w' : World} (h : Tab w) (hu : Upto NoS w w') : Tab w' := ⟨Nat.lt_of_lt_of_le h.1 hu.size, fun f s h1 h2 => hu.keep (h.2 f s h1 h2) id⟩
theorem Tab.alloc {w : World} (h : Tab w) (o : Obj) : Tab (w.alloc o) := h.upto ((Upto.refl _ _).alloc o)
end Go.Proofs.YtmgipmpnejphoaaDoor
