/- The reference's Take and Count, walked. -/
import Derived.Test.YthfmngpocfofnaaRefC
namespace Go.Proofs.Ythfmngpocfofnaa
open Go Go.RowKit Go.Deep Md

theorem Take_ref (w : World) (r g cap : Nat) (st : St) (h : RefAt w r g cap st) :
    Calls Try.prog 16 #[.pointer (some ⟨r, 0, none⟩)] w (RefTurned r g cap (takeSt st) w (takeV st)) := by
  have hl := h.len
  have hlt := h.lt
  have hB := h.alloc (.cells #[.int .i64 0, .int .u32 0] 31)
  have hU : Upto (· = g) w (w.alloc (.cells #[.int .i64 0, .int .u32 0] 31)) := (Upto.refl _ w).alloc _
  go_enter Try.func16, Try.ntmps16
  go_wp2_with fail
  go_loopw [4] (fun v wr => ∃ k : Nat, k ≤ st.length ∧ v = .int .i64 k ∧ NoFree st k ∧ RefAt wr r g cap st ∧ wr.rowIs w.heap.size 31 2 (handleF 0 0) ∧ Upto (· = g) w wr)
    (fun v _ => st.length - (intOf v).toNat)
  case atStart => exact ⟨0, by omega, rfl, fun j hj => by omega, hB, World.rowIs_alloc _ _ _ _ (by intro i hi; match i, hi with | 0, _ => rfl | 1, _ => rfl), hU⟩
  case round =>
    obtain ⟨k, hk, rfl, hno, hBr, hR, hUr⟩ := hrel
    have hh := hBr.head
    have hs2 : w.heap.size ≠ g := by omega
    by_cases hlt : k < st.length
    · obtain ⟨q0, q1⟩ := hBr.cells hlt
      have f0 := hBr.frozen (k * 2)
      by_cases h0 : stateOf st k = 0
      · have r0 := hR.cell (i := 0) (by omega)
        have r1 := hR.cell (i := 1) (by omega)
        have rf := hR.frozen
        have hff : firstFree st = some k := firstFree_of hlt h0 hno
        have hB2 := hBr.setState hlt (s := 1) (by omega)
        have hU2 : Upto (· = g) w (wr.setCell ⟨g, k * 2, none⟩ (.int .i64 (1 : Nat))) := hUr.setB rfl _
        have R2 : (wr.setCell ⟨g, k * 2, none⟩ (.int .i64 1)).rowIs w.heap.size 31 2 (handleF 0 0) := ((Upto.refl (fun x => x = g) wr).setB rfl _).row hR hs2
        have hh2 : (wr.setCell ⟨g, k * 2, none⟩ (.int .i64 1)).cell? ⟨r, 0, none⟩ = some (.slice (some ⟨g, 0, none⟩) st.length cap) := by have := hB2.head; rw [turn_length] at this; exact this
        have q2 : (wr.setCell ⟨g, k * 2, none⟩ (.int .i64 1)).cell? ⟨g, k * 2 + 1, none⟩ = some (.int .u32 (genOf st k : Nat)) := by
          have := (hB2.cells (i := k) (by rw [turn_length]; exact hlt)).2
          rw [show genOf (turn st k 1) k = genOf st k from by unfold turn; rw [genOf_set _ _ _ _ hlt, if_pos rfl]] at this
          exact this
        have r2 := R2.cell (i := 0) (by omega)
        have r3 := R2.cell (i := 1) (by omega)
        have rf2 := R2.frozen
        have e0 := Lib.hid (set2_0 R2 (.int .i64 k) (.int .u32 (genOf st k)))
        have e1 := Lib.hid (set2_1 R2 (.int .i64 k) (.int .u32 (genOf st k)))
        have HH := Lib.hid hff
        clear hff
        go_wp2
        refine bodyPost_ret (v := .tuple #[hv k (genOf st k), .int .i64 0]) (by simp [results, Try.results16, go_sem, e0.out, e1.out]) rfl ⟨by rw [takeV, HH.out], ?_, ?_⟩
        · rw [takeSt, HH.out]
          exact hB2.upto (((Upto.refl (fun x => x = w.heap.size) _).setB rfl _).setB rfl _) (by have := h.rlt; show ¬ r = w.heap.size; omega) (by show ¬ g = w.heap.size; omega)
        · exact (hU2.setNew (Nat.le_refl _) _).setNew (Nat.le_refl _) _
      · have hb : ((stateOf st k : Int) == 0) = false := by rw [beq_eq_false_iff_ne]; omega
        go_wp2
        go_roundw
        case rel => exact ⟨k + 1, by omega, by go_num, fun j hj => by by_cases e : j = k; (subst e; exact h0); exact hno j (by omega), hBr, hR, hUr⟩
        case measure => simp [intOf]; omega
    · obtain rfl : k = st.length := by omega
      have hff : firstFree st = none := firstFree_none hno
      have r0 := hR.cell (i := 0) (by omega)
      have r1 := hR.cell (i := 1) (by omega)
      have rf := hR.frozen
      have E0 := Lib.hid (set2_0 hR (.int .i64 0) (.int .u32 0))
      have E1 := Lib.hid (set2_1 hR (.int .i64 0) (.int .u32 0))
      go_wp2
      refine bodyPost_ret (v := .tuple #[hv 0 0, .int .i64 8]) (by simp [results, Try.results16, go_sem, E0.out, E1.out]) rfl ⟨by rw [takeV, hff], ?_, ?_⟩
      · rw [takeSt, hff]
        exact hBr.upto (((Upto.refl (fun x => x = w.heap.size) wr).setB rfl _).setB rfl _) (by have := h.rlt; show ¬ r = w.heap.size; omega) (by show ¬ g = w.heap.size; omega)
      · exact (hUr.setNew (Nat.le_refl _) _).setNew (Nat.le_refl _) _
end Go.Proofs.Ythfmngpocfofnaa
