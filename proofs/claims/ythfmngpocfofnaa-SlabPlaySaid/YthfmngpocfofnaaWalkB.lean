/- The small methods of a slab, walked: Live. -/
import Derived.Test.YthfmngpocfofnaaWalkA
namespace Go.Proofs.Ythfmngpocfofnaa
open Go Go.RowKit Go.Deep Md

abbrev hv (slot gen : Int) : Value := .agg #[.int .i64 slot, .int .u32 gen]
def NoS (_ : Nat) : Prop := False
def BoolAt (P : Bool) (w : World) (e : Ending) (w' : World) : Prop := e = .returned (.bool P) ∧ Upto NoS w w'

theorem Live_any (w : World) (b : Nat) (st : St) (slot gen : Int) (h : SlabAt w b st) (h1 : -9223372036854775808 ≤ slot) (h2 : slot ≤ 9223372036854775807) (_g1 : 0 ≤ gen) (_g2 : gen < 4294967296) :
    Calls Try.prog 10 #[.pointer (some ⟨b, 0, none⟩), hv slot gen] w (BoolAt (liveB st slot gen) w) := by
  have hl := h.len
  have hlt := h.lt
  by_cases e1 : stateI st slot = 1
  · have hs : 0 ≤ slot ∧ slot < st.length := by
      unfold stateI at e1; split at e1 <;> first | assumption | omega
    obtain ⟨n, rfl⟩ := Int.eq_ofNat_of_zero_le hs.1
    have hn : n < st.length := by omega
    have hb : (stateI st n == 1) = true := by rw [e1]; rfl
    have hg : (w.alloc (.cells #[.int .i64 n, .int .u32 gen] 31)).cell? ⟨b, n * 2 + 1, none⟩ = some (.int .u32 (genOf st n : Nat)) := by
      rw [World.cell?_alloc_lt _ _ _ hlt]; exact h.cellGen (by omega)
    have hr : liveB st n gen = ((genOf st n : Int) == gen) := by
      have : stateOf st n = 1 := by
        unfold stateI at e1; rw [if_pos hs] at e1; simp at e1; omega
      simp [liveB, hn, this]
    rw [hr]
    have h' := h.alloc (.cells #[.int .i64 n, .int .u32 gen] 31)
    clear hs e1 h
    go_enter Try.func10, Try.ntmps10
    go_wp2_with fail
    go_quiet ((go_at_call 21; exact quiet_same (State_any _ b st n (h'.drewN _) h1 h2)))
    go_wp2
    go_ret
    exact ⟨rfl, ((Upto.refl NoS w).alloc _).drewN _⟩
  · have hb : (stateI st slot == 1) = false := by simpa using e1
    have hr : liveB st slot gen = false := by
      unfold stateI at e1
      unfold liveB
      by_cases hs : 0 ≤ slot ∧ slot < st.length
      · rw [if_pos hs] at e1
        have : (stateOf st slot.toNat == 1) = false := by rw [beq_eq_false_iff_ne]; omega
        simp [this]
      · by_cases h0 : 0 ≤ slot
        · simp [show ¬ slot < st.length from by omega]
        · simp [h0]
    rw [hr]
    have h' := h.alloc (.cells #[.int .i64 slot, .int .u32 gen] 31)
    clear e1 h
    go_enter Try.func10, Try.ntmps10
    go_wp2_with fail
    go_quiet ((go_at_call 21; exact quiet_same (State_any _ b st slot (h'.drewN _) h1 h2)))
    go_wp2
    go_ret
    exact ⟨rfl, ((Upto.refl NoS w).alloc _).drewN _⟩
end Go.Proofs.Ythfmngpocfofnaa
