/- Ports' Take, told by the first free port. -/
import Derived.Test.YtfiblchdfacdiaaTakeC
import Derived.Test.YtfiblchdfacdiaaTakeH
namespace Go.Proofs.Ytfiblchdfacdiaa
open Go Go.RowKit Go.Deep Go.Maps

/-- Is a port nobody's? -/
def freeB (R : List Rw) (p a q : Nat) : Bool := !(R.any fun r => r.p == p && r.oa == a && r.ob == q)
theorem free_eq (T : List (Rw × Nat)) (p a q : Nat) : (fO T p a q).isNone = freeB (T.map Prod.fst) p a q := by
  unfold fO freeB
  rw [List.any_map]
  induction T with
  | nil => rfl
  | cons r l ih =>
    rw [List.find?_cons, List.any_cons]
    cases h : (r.1.p == p && r.1.oa == a && r.1.ob == q)
    · simp only [ih, Function.comp, h, Bool.false_or]
    · simp [Function.comp, h]
/-- The port that is chosen. -/
def pickR (R : List Rw) (W : Ws) : Option Nat := W.tried.find? (freeB R W.p W.ip)

theorem Take_pick (w : World) (x rb ob : Nat) (T : List (Rw × Nat)) (W : Ws) (q : Nat) (h : PsAt w x rb ob T) (hWk : W.Ok) (hW : W.may) (hI : fI T W.p W.ia W.ib = none) (hT : T.length < 1000000) (hq : pickR (T.map Prod.fst) W = some q) :
    Calls Try.prog 14 #[.pointer (some ⟨x, 0, none⟩), wv W] w fun e w' => e = .returned (.tuple #[ev W.ip q, .int .i64 0]) ∧ ∃ k, w.heap.size ≤ k ∧ PsAt w' x rb ob (T ++ [(newR W.p W.ip q W.ia W.ib, k)]) ∧ Upto (fun i => i = rb ∨ i = ob) w w' := by
  refine (Take_new w x rb ob T W h hWk hW hI hT).mono ?_
  rintro e w' (⟨q', k, pre, rest, ht, hf, hno, rfl, hk, hP, hu⟩ | ⟨hno, rfl, hP, hu⟩)
  · have : pickR (T.map Prod.fst) W = some q' := by
      unfold pickR
      rw [ht, List.find?_append, List.find?_eq_none.2 (fun y hy => by rw [← free_eq, hno y hy]; simp), Option.none_or, List.find?_cons, ← free_eq, hf]
      rfl
    rw [hq] at this
    obtain rfl := Option.some.inj this
    exact ⟨rfl, k, hk, hP, hu⟩
  · have : pickR (T.map Prod.fst) W = none := List.find?_eq_none.2 (fun y hy => by rw [← free_eq, hno y hy]; simp)
    rw [hq] at this
    cases this
theorem Take_full (w : World) (x rb ob : Nat) (T : List (Rw × Nat)) (W : Ws) (h : PsAt w x rb ob T) (hWk : W.Ok) (hW : W.may) (hI : fI T W.p W.ia W.ib = none) (hT : T.length < 1000000) (hq : pickR (T.map Prod.fst) W = none) :
    Calls Try.prog 14 #[.pointer (some ⟨x, 0, none⟩), wv W] w fun e w' => e = .returned (.tuple #[ev 0 0, .int .i64 8]) ∧ PsAt w' x rb ob T ∧ Upto NoS w w' := by
  refine (Take_new w x rb ob T W h hWk hW hI hT).mono ?_
  rintro e w' (⟨q', k, pre, rest, ht, hf, hno, rfl, hk, hP, hu⟩ | ⟨hno, rfl, hP, hu⟩)
  · have : pickR (T.map Prod.fst) W = some q' := by
      unfold pickR
      rw [ht, List.find?_append, List.find?_eq_none.2 (fun y hy => by rw [← free_eq, hno y hy]; simp), Option.none_or, List.find?_cons, ← free_eq, hf]
      rfl
    rw [hq] at this
    cases this
  · exact ⟨rfl, hP, hu⟩

/-! The chapter's wishes. -/
def La : Ws := ⟨17, 1, 4000, 9, 1000, 2000, 5⟩
def Lb : Ws := ⟨17, 2, 1006, 9, 1000, 2000, 5⟩
def Lc : Ws := ⟨17, 3, 1500, 9, 1000, 2000, 5⟩
def Le : Ws := ⟨0, 0, 1, 0, 7, 7, 0⟩
def Lf : Ws := ⟨0, 0, 2, 0, 7, 7, 0⟩
def Ra : Rw := newR 17 9 1006 1 4000
def Rb : Rw := newR 17 9 1008 2 1006
def Rc : Rw := newR 17 9 1500 3 1500
def Re : Rw := newR 0 0 7 0 1
theorem pick_a : pickR [] La = some 1006 := by decide +kernel
theorem pick_b : pickR [Ra] Lb = some 1008 := by decide +kernel
theorem pick_c : pickR [Ra, Rb] Lc = some 1500 := by decide +kernel
theorem pick_e : pickR [hold Ra, Rb, Rc] Le = some 7 := by decide +kernel
theorem pick_f : pickR [hold Ra, Rb, Rc, Re] Lf = none := by decide +kernel
theorem ok_a : La.Ok := ⟨by decide, by decide, by decide, by decide, by decide, by decide, by decide⟩
theorem ok_b : Lb.Ok := ⟨by decide, by decide, by decide, by decide, by decide, by decide, by decide⟩
theorem ok_c : Lc.Ok := ⟨by decide, by decide, by decide, by decide, by decide, by decide, by decide⟩
theorem ok_e : Le.Ok := ⟨by decide, by decide, by decide, by decide, by decide, by decide, by decide⟩
theorem ok_f : Lf.Ok := ⟨by decide, by decide, by decide, by decide, by decide, by decide, by decide⟩
theorem may_a : La.may := ⟨by decide, by decide⟩
theorem may_b : Lb.may := ⟨by decide, by decide⟩
theorem may_c : Lc.may := ⟨by decide, by decide⟩
theorem may_e : Le.may := ⟨by decide, by decide⟩
theorem may_f : Lf.may := ⟨by decide, by decide⟩
end Go.Proofs.Ytfiblchdfacdiaa
