/- The reference's Count, walked. -/
import Derived.Test.YthfmngpocfofnaaRefD
namespace Go.Proofs.Ythfmngpocfofnaa
open Go Go.RowKit Go.Deep Md

theorem cnt_take (st : St) (k j : Nat) (hk : k < st.length) : cnt (st.take (k + 1)) j = cnt (st.take k) j + (if stateOf st k = j then 1 else 0) := by
  unfold cnt
  rw [List.take_succ_eq_append_getElem hk, List.countP_append, stateOf_eq hk]
  simp [List.countP_cons]
theorem Count_ref (w : World) (r g cap : Nat) (st : St) (h : RefAt w r g cap st) :
    Calls Try.prog 20 #[.pointer (some ⟨r, 0, none⟩)] w (Told (.tuple #[.int .i64 (cnt st 0), .int .i64 (cnt st 1), .int .i64 (cnt st 2)]) w) := by
  have hl := h.len
  have hlt := h.lt
  go_enter Try.func20, Try.ntmps20
  go_wp2_with fail
  go_loopw [6] (fun v wr => ∃ k : Nat, k ≤ st.length ∧ v = .int .i64 k ∧ wr.rowIs w.heap.size 55 3 (fun j => .int .i64 (cnt (st.take k) j : Nat)) ∧ Upto NoS w wr)
    (fun v _ => st.length - (intOf v).toNat)
  case atStart => exact ⟨0, by omega, rfl, World.rowIs_alloc _ _ _ _ (by intro i hi; match i, hi with | 0, _ => rfl | 1, _ => rfl | 2, _ => rfl), (Upto.refl _ _).alloc _⟩
  case round =>
    obtain ⟨k, hk, rfl, hR, hU⟩ := hrel
    have hB := h.upto hU id id
    have hh := hB.head
    by_cases hlk : k < st.length
    · have q0 := (hB.cells hlk).1
      have s2 := (h.ok.2 k).1
      have c0 := hR.cell (i := stateOf st k) (by omega)
      have f0 := hR.frozen (stateOf st k)
      have hcl : cnt (st.take k) (stateOf st k) ≤ 256 := Nat.le_trans (cnt_le _ _) (by simp; omega)
      go_wp2
      go_roundw
      case rel =>
        refine ⟨k + 1, by omega, by go_num, (hR.set (stateOf st k) _).congr fun j hj => ?_, hU.setNew (Nat.le_refl _) _⟩
        by_cases e : j = stateOf st k
        · rw [if_pos e, cnt_take _ _ _ hlk, if_pos e.symm, e]; go_num
        · rw [if_neg e, cnt_take _ _ _ hlk, if_neg (fun h => e h.symm)]; rfl
      case measure => simp [intOf]; omega
    · obtain rfl : k = st.length := by omega
      have c0 := hR.cell (i := 0) (by omega)
      have c1 := hR.cell (i := 1) (by omega)
      have c2 := hR.cell (i := 2) (by omega)
      rw [List.take_length] at c0 c1 c2
      go_wp2_with fail
      go_quiet (fail)
      go_wp2
      go_ret3
      exact ⟨rfl, hU.drewN _⟩
end Go.Proofs.Ythfmngpocfofnaa
