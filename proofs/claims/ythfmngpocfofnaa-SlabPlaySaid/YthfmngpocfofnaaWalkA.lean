/- The small methods of a slab, walked: none, State. -/
import Derived.Test.YthfmngpocfofnaaAt
import Derived.Deep.QuietTactic
import Derived.BigQuiet
namespace Go.Proofs.Ythfmngpocfofnaa
open Go Go.RowKit Go.Deep Md

theorem none_no (w : World) (b : Nat) (st : St) (h : SlabAt w b st) :
    Calls Try.prog 25 #[.pointer (some ⟨b, 0, none⟩)] w fun e w' => e = .returned (.bool false) ∧ w = w' := by
  have hc := h.cellSize
  have hp : ((st.length : Int) == 0) = false := by have := h.pos; rw [beq_eq_false_iff_ne]; omega
  clear h
  go_enter Try.func25, Try.ntmps25
  go_wp2
  go_ret
  exact ⟨rfl, rfl⟩
theorem none_nil (w : World) :
    Calls Try.prog 25 #[.pointer none] w fun e w' => e = .returned (.bool true) ∧ w = w' := by
  go_enter Try.func25, Try.ntmps25
  go_wp2
  go_ret
  exact ⟨rfl, rfl⟩
theorem none_zero (w : World) (b : Nat) (hc : w.cell? ⟨b, 512, none⟩ = some (.int .i64 0)) :
    Calls Try.prog 25 #[.pointer (some ⟨b, 0, none⟩)] w fun e w' => e = .returned (.bool true) ∧ w = w' := by
  go_enter Try.func25, Try.ntmps25
  go_wp2
  go_ret
  exact ⟨rfl, rfl⟩

theorem State_any (w : World) (b : Nat) (st : St) (slot : Int) (h : SlabAt w b st) (h1 : -9223372036854775808 ≤ slot) (h2 : slot ≤ 9223372036854775807) :
    Calls Try.prog 21 #[.pointer (some ⟨b, 0, none⟩), .int .i64 slot] w fun e w' => e = .returned (.int .i64 (stateI st slot)) ∧ w = w' := by
  have hc := h.cellSize
  have hl := h.len
  by_cases g1 : slot < 0
  · have hr : stateI st slot = -1 := by unfold stateI; rw [if_neg (by omega)]
    rw [hr]
    go_enter Try.func21, Try.ntmps21
    go_wp2_with (go_at_call 25; refine (none_no _ _ _ h).mono ?_; rintro e w' ⟨rfl, rfl⟩)
    go_ret
    exact ⟨rfl, rfl⟩
  · obtain ⟨n, rfl⟩ := Int.eq_ofNat_of_zero_le (by omega : 0 ≤ slot)
    by_cases g2 : n < st.length
    · have hr : stateI st n = (stateOf st n : Nat) := by unfold stateI; rw [if_pos (by omega)]; simp
      rw [hr]
      have hs := h.cellState (i := n) (by omega)
      go_enter Try.func21, Try.ntmps21
      go_wp2_with (go_at_call 25; refine (none_no _ _ _ h).mono ?_; rintro e w' ⟨rfl, rfl⟩)
      go_ret
      exact ⟨rfl, rfl⟩
    · have hr : stateI st n = -1 := by unfold stateI; rw [if_neg (by omega)]
      rw [hr]
      go_enter Try.func21, Try.ntmps21
      go_wp2_with (go_at_call 25; refine (none_no _ _ _ h).mono ?_; rintro e w' ⟨rfl, rfl⟩)
      go_ret
      exact ⟨rfl, rfl⟩
end Go.Proofs.Ythfmngpocfofnaa
