/- A slab's Free, Count, Size and Take, walked. -/
import Derived.Test.YthfmngpocfofnaaWalkD
namespace Go.Proofs.Ythfmngpocfofnaa
open Go Go.RowKit Go.Deep Md

def freeE (st : St) (slot : Int) : Int := if stateI st slot = 2 then 0 else 6
def freeSt (st : St) (slot : Int) : St := if stateI st slot = 2 then turn st slot.toNat 0 else st

theorem Free_any (w : World) (b : Nat) (st : St) (slot : Int) (h : SlabAt w b st) (h1 : -9223372036854775808 ≤ slot) (h2 : slot ≤ 9223372036854775807) :
    Calls Try.prog 13 #[.pointer (some ⟨b, 0, none⟩), .int .i64 slot] w (Turned b (freeSt st slot) w (.int .i64 (freeE st slot))) := by
  by_cases e : stateI st slot = 2
  · rw [show freeSt st slot = turn st slot.toNat 0 from if_pos e, show freeE st slot = 0 from if_pos e]
    have hb : (stateI st slot == 2) = true := by rw [e]; rfl
    have hs : 0 ≤ slot ∧ slot < st.length := by
      unfold stateI at e; split at e <;> first | assumption | omega
    obtain ⟨n, rfl⟩ := Int.eq_ofNat_of_zero_le hs.1
    have hn : n < st.length := by omega
    have hne : stateOf st n ≠ 0 := by unfold stateI at e; rw [if_pos hs] at e; simp only [Int.toNat_natCast] at e; omega
    simp only [Int.toNat_natCast]
    clear e hs
    go_enter Try.func13, Try.ntmps13
    go_wp2_with (first
      | (go_at_call 25; refine (none_no _ _ _ h).mono ?_; rintro e w' ⟨rfl, rfl⟩)
      | (go_at_call 21; refine (State_any _ b st n h h1 h2).mono ?_; rintro e w1 ⟨rfl, rfl⟩)
      | (go_at_call 26; refine (turn_any _ b st n 0 h hn (by omega) hne).mono ?_; rintro e w2 ⟨rfl, hB2, hu2⟩))
    go_ret
    exact ⟨rfl, hB2, hu2⟩
  · rw [show freeSt st slot = st from if_neg e, show freeE st slot = 6 from if_neg e]
    have hb : (stateI st slot == 2) = false := by simpa using e
    clear e
    go_enter Try.func13, Try.ntmps13
    go_wp2_with (first
      | (go_at_call 25; refine (none_no _ _ _ h).mono ?_; rintro e w' ⟨rfl, rfl⟩)
      | (go_at_call 21; refine (State_any _ b st slot h h1 h2).mono ?_; rintro e w1 ⟨rfl, rfl⟩))
    go_ret
    exact ⟨rfl, h, Upto.refl _ _⟩

def Told (v : Value) (w : World) (e : Ending) (w' : World) : Prop := e = .returned v ∧ Upto NoS w w'

theorem Count_any (w : World) (b : Nat) (st : St) (h : SlabAt w b st) :
    Calls Try.prog 12 #[.pointer (some ⟨b, 0, none⟩)] w (Told (.tuple #[.int .i64 (cnt st 0), .int .i64 (cnt st 1), .int .i64 (cnt st 2)]) w) := by
  have c0 := h.cellCnt (k := 0) (by omega)
  have c1 := h.cellCnt (k := 1) (by omega)
  have c2 := h.cellCnt (k := 2) (by omega)
  simp only [Nat.add_zero, Nat.reduceAdd] at c0 c1 c2
  go_enter Try.func12, Try.ntmps12
  go_wp2_with (first
      | (go_at_call 25; refine (none_no _ _ _ h).mono ?_; rintro e w' ⟨rfl, rfl⟩))
  go_quiet (fail)
  go_wp2
  go_ret3
  exact ⟨rfl, (Upto.refl _ w).drewN _⟩

theorem Size_any (w : World) (b : Nat) (st : St) (h : SlabAt w b st) :
    Calls Try.prog 24 #[.pointer (some ⟨b, 0, none⟩)] w (Told (.int .i64 st.length) w) := by
  have c0 := h.cellSize
  go_enter Try.func24, Try.ntmps24
  go_wp2_with (first
      | (go_at_call 25; refine (none_no _ _ _ h).mono ?_; rintro e w' ⟨rfl, rfl⟩))
  go_ret
  exact ⟨rfl, Upto.refl _ w⟩

/-- What Take answers, and what becomes of the slots. -/
def takeSt (st : St) : St := match firstFree st with | some i => turn st i 1 | none => st
def takeV (st : St) : Value := match firstFree st with
  | some i => .tuple #[hv i (genOf st i), .int .i64 0]
  | none => .tuple #[hv 0 0, .int .i64 8]

def NoFree (st : St) (k : Nat) : Prop := ∀ j, j < k → stateOf st j ≠ 0
def handleF (slot gen : Int) (i : Nat) : Value := if i = 0 then .int .i64 slot else .int .u32 gen

theorem slice_all (b n : Nat) (h : n ≤ 256) (W : World) : (Instr.sliceAt 54 (.pointer (some ⟨b, 0, none⟩)) none (some (.int .i64 n)) none).run Try.prog W = .ok (.slice (some ⟨b, 0, none⟩) n 256) W := by
  have hs : (sizeOf 53).run Try.prog W = .ok 2 W := by kernel_rfl
  have hu : Try.prog.underlying 54 = some (.array 256 53) := by kernel_rfl
  have hb := run_sliceBound (P := Try.prog) W .i64 n 256 .sliceAlen (by omega) (by omega)
  simp [Instr.sliceAt, Instr.sureAddr, run_underlying hu, Instr.sliceBounds, hb, Addr.add_lit]

theorem Take_any (w : World) (b : Nat) (st : St) (h : SlabAt w b st) :
    Calls Try.prog 9 #[.pointer (some ⟨b, 0, none⟩)] w (Turned b (takeSt st) w (takeV st)) := by
  have hl := h.len
  have hp := h.pos
  have hlt := h.lt
  have hB := h.alloc (.cells #[.int .i64 0, .int .u32 0] 31)
  have hU : Upto (· = b) w (w.alloc (.cells #[.int .i64 0, .int .u32 0] 31)) := (Upto.refl _ w).alloc _
  have c1 := hB.cellSize
  have hsl := slice_all b st.length hl
  go_enter Try.func9, Try.ntmps9
  go_wp2_with (first
      | (go_at_call 25; refine (none_no _ _ _ hB).mono ?_; rintro e w' ⟨rfl, rfl⟩))
  go_quiet (fail)
  go_wp2
  go_loopw [18] (fun v wr => ∃ k : Nat, k ≤ st.length ∧ v = .int .i64 k ∧ NoFree st k ∧ SlabAt wr b st ∧ wr.rowIs w.heap.size 31 2 (handleF 0 0) ∧ Upto (· = b) w wr)
    (fun v _ => st.length - (intOf v).toNat)
  case atStart => exact ⟨0, by omega, rfl, fun j hj => by omega, hB.drewN _, World.rowIs_alloc _ _ _ _ (by intro i hi; match i, hi with | 0, _ => rfl | 1, _ => rfl), hU.drewN _⟩
  case round =>
    obtain ⟨k, hk, rfl, hno, hBr, hR, hUr⟩ := hrel
    by_cases hlt : k < st.length
    · have q0 := hBr.cellState (i := k) (by omega)
      have q1 := hBr.cellGen (i := k) (by omega)
      by_cases h0 : stateOf st k = 0
      · have hs : b ≠ wr.heap.size := Nat.ne_of_lt hBr.lt
        have hs2 : b ≠ w.heap.size := Nat.ne_of_lt (by omega)
        go_wp2_with (first
          | (go_at_call 26; refine (turn_any _ b st k 1 (hBr.alloc _) hlt (by omega) (by omega)).mono ?_; rintro e w2 ⟨rfl, hB2, hu2⟩; have x2 := hu2.keep (new_1 wr #[.int .i64 0, .int .u32 (genOf st k)] 53 1 (.int .u32 (genOf st k)) rfl) (Ne.symm hs); have R2 := hu2.row (hR.alloc _) (Ne.symm hs2); have r0 := R2.cell (i := 0) (by omega); have r1 := R2.cell (i := 1) (by omega); have rf := R2.frozen; have rl := R2.lt))
        have hff : firstFree st = some k := firstFree_of hlt h0 hno
        have e0 := set2_0 R2 (.int .i64 k) (.int .u32 (genOf st k))
        have e1 := set2_1 R2 (.int .i64 k) (.int .u32 (genOf st k))
        refine bodyPost_ret (v := .tuple #[hv k (genOf st k), .int .i64 0]) (by simp [results, Try.results9, go_sem, e0, e1]) rfl ⟨by rw [takeV, hff], ?_, ?_⟩
        · rw [takeSt, hff]
          exact hB2.upto (((Upto.refl (fun x => x = w.heap.size) w2).setB rfl _).setB rfl _) hs2
        · exact ((((hUr.alloc _).trans hu2)).setNew (Nat.le_refl _) _).setNew (Nat.le_refl _) _
      · have hb : ((stateOf st k : Int) == 0) = false := by rw [beq_eq_false_iff_ne]; omega
        go_wp2
        go_roundw
        case rel => exact ⟨k + 1, by omega, by go_num, fun j hj => by by_cases e : j = k; (subst e; exact h0); exact hno j (by omega), hBr.alloc _, hR.alloc _, hUr.alloc _⟩
        case measure => simp [intOf]; omega
    · obtain rfl : k = st.length := by omega
      have hff : firstFree st = none := firstFree_none hno
      have hs2 : b ≠ w.heap.size := Nat.ne_of_lt (by omega)
      have r0 := hR.cell (i := 0) (by omega)
      have r1 := hR.cell (i := 1) (by omega)
      have rf := hR.frozen
      have e0 := set2_0 hR (.int .i64 0) (.int .u32 0)
      have e1 := set2_1 hR (.int .i64 0) (.int .u32 0)
      have E0 := Lib.hid e0
      have E1 := Lib.hid e1
      clear e0 e1
      go_wp2
      refine bodyPost_ret (v := .tuple #[hv 0 0, .int .i64 8]) (by simp [results, Try.results9, go_sem, E0.out, E1.out]) rfl ⟨by rw [takeV, hff], ?_, ?_⟩
      · rw [takeSt, hff]
        exact hBr.upto (((Upto.refl (fun x => x = w.heap.size) wr).setB rfl _).setB rfl _) hs2
      · exact (hUr.setNew (Nat.le_refl _) _).setNew (Nat.le_refl _) _
end Go.Proofs.Ythfmngpocfofnaa
