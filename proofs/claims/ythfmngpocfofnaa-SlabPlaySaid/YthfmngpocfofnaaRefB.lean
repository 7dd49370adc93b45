/- The reference's Live and Free, walked. -/
import Derived.Test.YthfmngpocfofnaaRefAt
import Derived.Laws.OwnMore
namespace Go.Proofs.Ythfmngpocfofnaa
open Go Go.RowKit Go.Deep Md

theorem hcl_set0 (H : List (Nat × Nat)) (i s : Nat) : (hcl H).set (i * 2) (.int .i64 (s : Nat)) = hcl (H.set i (s, (H.getD i (0, 0)).2)) := by
  induction H generalizing i with
  | nil => simp [hcl]
  | cons p l ih =>
    cases i with
    | zero => simp [hcl]
    | succ i =>
      have := ih i
      rw [show (i + 1) * 2 = i * 2 + 2 from by omega]
      simpa [hcl] using this
theorem hcl_set1 (H : List (Nat × Nat)) (i t : Nat) : (hcl H).set (i * 2 + 1) (.int .u32 (t : Nat)) = hcl (H.set i ((H.getD i (0, 0)).1, t)) := by
  induction H generalizing i with
  | nil => simp [hcl]
  | cons p l ih =>
    cases i with
    | zero => simp [hcl]
    | succ i =>
      have := ih i
      rw [show (i + 1) * 2 + 1 = i * 2 + 1 + 2 from by omega]
      simpa [hcl] using this

/-- What a method of the reference's leaves. -/
def RefTurned (r g cap : Nat) (st' : St) (w : World) (v : Value) (e : Ending) (w' : World) : Prop := e = .returned v ∧ RefAt w' r g cap st' ∧ Upto (· = g) w w'

namespace RefAt
variable {w : World} {r g cap : Nat} {st : St}
theorem frozen (h : RefAt w r g cap st) (i : Nat) : w.frozen? ⟨g, i, none⟩ = false := h.own.frozenAt i
theorem setState (h : RefAt w r g cap st) {i : Nat} (hi : i < st.length) {s : Nat} (hs : s ≤ 2) : RefAt (w.setCell ⟨g, i * 2, none⟩ (.int .i64 (s : Nat))) r g cap (turn st i s) := by
  have ho := (h.own.stored (i * 2) (.int .i64 (s : Nat))).1
  rw [hcl_set0, show (st.getD i (0, 0)).2 = genOf st i by simp [genOf, hi]] at ho
  have hu : Upto (· = g) w (w.setCell ⟨g, i * 2, none⟩ (.int .i64 (s : Nat))) := (Upto.refl (fun x => x = g) w).setB rfl _
  have hl : (turn st i s).length = st.length := turn_length st i s
  exact ⟨by rw [hl]; exact hu.keep h.head h.ne, by rw [hl]; exact ho, h.ne, h.ok.turn hi hs, by rw [hl]; exact h.pos⟩
end RefAt

theorem Live_ref (w : World) (r g cap : Nat) (st : St) (slot gen : Int) (h : RefAt w r g cap st) (h1 : -9223372036854775808 ≤ slot) (h2 : slot ≤ 9223372036854775807) (_g1 : 0 ≤ gen) (_g2 : gen < 4294967296) :
    Calls Try.prog 23 #[.pointer (some ⟨r, 0, none⟩), hv slot gen] w (BoolAt (liveB st slot gen) w) := by
  have hl := h.len
  have hlt := h.lt
  have hh := (h.alloc (.cells #[.int .i64 slot, .int .u32 gen] 31)).head
  have h' := h.alloc (.cells #[.int .i64 slot, .int .u32 gen] 31)
  by_cases e1 : stateI st slot = 1
  · have hs : 0 ≤ slot ∧ slot < st.length := by
      unfold stateI at e1; split at e1 <;> first | assumption | omega
    obtain ⟨n, rfl⟩ := Int.eq_ofNat_of_zero_le hs.1
    have hn : n < st.length := by omega
    have hb : (stateI st n == 1) = true := by rw [e1]; rfl
    have hg := (h'.cells hn).2
    have hr : liveB st n gen = ((genOf st n : Int) == gen) := by
      have : stateOf st n = 1 := by
        unfold stateI at e1; rw [if_pos hs] at e1; simp at e1; omega
      simp [liveB, hn, this]
    rw [hr]
    clear hs e1 h
    go_enter Try.func23, Try.ntmps23
    go_wp2_with fail
    go_quiet ((go_at_call 22; exact quiet_same (State_ref _ r g cap st n (h'.drewN _) h1 h2)))
    go_wp2
    go_ret
    exact ⟨rfl, ((Upto.refl NoS w).alloc _).drewN _⟩
  · have hb : (stateI st slot == 1) = false := by simpa using e1
    have hr : liveB st slot gen = false := by
      unfold stateI at e1
      unfold liveB
      by_cases hs : 0 ≤ slot ∧ slot < st.length
      · rw [if_pos hs] at e1
        have : (stateOf st slot.toNat == 1) = false := by rw [beq_eq_false_iff_ne]; omega
        simp [this]
      · by_cases h0 : 0 ≤ slot
        · simp [show ¬ slot < st.length from by omega]
        · simp [h0]
    rw [hr]
    clear e1 h
    go_enter Try.func23, Try.ntmps23
    go_wp2_with fail
    go_quiet ((go_at_call 22; exact quiet_same (State_ref _ r g cap st slot (h'.drewN _) h1 h2)))
    go_wp2
    go_ret
    exact ⟨rfl, ((Upto.refl NoS w).alloc _).drewN _⟩

theorem Free_ref (w : World) (r g cap : Nat) (st : St) (slot : Int) (h : RefAt w r g cap st) (h1 : -9223372036854775808 ≤ slot) (h2 : slot ≤ 9223372036854775807) :
    Calls Try.prog 19 #[.pointer (some ⟨r, 0, none⟩), .int .i64 slot] w (RefTurned r g cap (freeSt st slot) w (.int .i64 (freeE st slot))) := by
  have hh := h.head
  by_cases e : stateI st slot = 2
  · rw [show freeSt st slot = turn st slot.toNat 0 from if_pos e, show freeE st slot = 0 from if_pos e]
    have hb : (stateI st slot != 2) = false := by rw [e]; rfl
    have hs : 0 ≤ slot ∧ slot < st.length := by
      unfold stateI at e; split at e <;> first | assumption | omega
    obtain ⟨n, rfl⟩ := Int.eq_ofNat_of_zero_le hs.1
    have hn : n < st.length := by omega
    simp only [Int.toNat_natCast]
    have c0 := (h.cells hn).1
    have f0 := h.frozen (n * 2)
    have R := Lib.hid (h.setState hn (s := 0) (by omega))
    have e' := Lib.hid e
    clear e hs
    go_enter Try.func19, Try.ntmps19
    go_wp2_with (go_at_call 22; refine (State_ref _ r g cap st n h h1 h2).mono ?_; rintro e w1 ⟨rfl, rfl⟩)
    go_ret
    exact ⟨rfl, R.out, (Upto.refl (fun x => x = g) w).setB rfl _⟩
  · rw [show freeSt st slot = st from if_neg e, show freeE st slot = 6 from if_neg e]
    have hb : (stateI st slot != 2) = true := by simpa using e
    clear e
    go_enter Try.func19, Try.ntmps19
    go_wp2_with (go_at_call 22; refine (State_ref _ r g cap st slot h h1 h2).mono ?_; rintro e w1 ⟨rfl, rfl⟩)
    go_ret
    exact ⟨rfl, h, Upto.refl _ _⟩
end Go.Proofs.Ythfmngpocfofnaa
