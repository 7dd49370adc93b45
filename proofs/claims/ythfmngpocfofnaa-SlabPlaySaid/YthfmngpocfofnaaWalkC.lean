/- A slab's turn, walked. -/
import Derived.Test.YthfmngpocfofnaaWalkB
namespace Go.Proofs.Ythfmngpocfofnaa
open Go Go.RowKit Go.Deep Md

theorem row_turn {w : World} {b : Nat} {st : St} (h : SlabAt w b st) {i s o : Nat} (hi : i < st.length) (hs : s < 3) (ho : stateOf st i = o) (hne : o ≠ s) :
    SlabAt (((w.setCell ⟨b, 513 + o, none⟩ (.int .i64 ((cnt st o : Int) - 1))).setCell ⟨b, i * 2, none⟩ (.int .i64 (s : Int))).setCell ⟨b, 513 + s, none⟩ (.int .i64 ((cnt st s : Int) + 1))) b (turn st i s) := by
  have hl := h.len
  refine ⟨?_, h.ok.turn hi (by omega), by simpa [turn_length] using h.pos⟩
  refine (((h.row.set (513 + o) _).set (i * 2) _).set (513 + s) _).congr fun j hj => ?_
  have hpos := cnt_pos hi
  rw [ho] at hpos
  have h2 := (h.ok.2 i).1
  simp only [slabF, turn_length]
  by_cases e1 : j = 513 + s
  · subst e1
    rw [if_pos rfl, if_neg (by omega), if_neg (by omega), show 513 + s - 513 = s from by omega]
    unfold turn
    rw [cnt_set _ _ _ _ hi, ho, if_neg hne, if_pos rfl]
    simp
  · rw [if_neg e1]
    by_cases e2 : j = i * 2
    · subst e2
      rw [if_pos rfl, if_pos (by omega), if_pos (by omega), show i * 2 / 2 = i from by omega]
      unfold turn; rw [stateOf_set _ _ _ _ hi, if_pos rfl]
    · rw [if_neg e2]
      by_cases e3 : j = 513 + o
      · subst e3
        rw [if_pos rfl, if_neg (by omega), if_neg (by omega), show 513 + o - 513 = o from by omega]
        unfold turn
        rw [cnt_set _ _ _ _ hi, ho, if_pos rfl, if_neg (Ne.symm hne)]
        congr 1; omega
      · rw [if_neg e3]
        by_cases e4 : j < 512
        · rw [if_pos e4, if_pos e4]
          unfold turn
          rw [stateOf_set _ _ _ _ hi, genOf_set _ _ _ _ hi]
          by_cases e5 : j % 2 = 0
          · rw [if_pos e5, if_pos e5, if_neg (by omega)]
          · rw [if_neg e5, if_neg e5]
            by_cases e6 : j / 2 = i
            · rw [if_pos e6, e6]
            · rw [if_neg e6]
        · rw [if_neg e4, if_neg e4]
          by_cases e5 : j = 512
          · rw [if_pos e5, if_pos e5]
          · rw [if_neg e5, if_neg e5]
            unfold turn
            rw [cnt_set _ _ _ _ hi, ho, if_neg (by omega), if_neg (by simp; omega)]
            simp

def Turned (b : Nat) (st : St) (w : World) (v : Value) (e : Ending) (w' : World) : Prop := e = .returned v ∧ SlabAt w' b st ∧ Upto (· = b) w w'

theorem turn_any (w : World) (b : Nat) (st : St) (i s : Nat) (h : SlabAt w b st) (hi : i < st.length) (hs : s < 3) (hne : stateOf st i ≠ s) :
    Calls Try.prog 26 #[.pointer (some ⟨b, 0, none⟩), .int .i64 i, .int .i64 s] w (Turned b (turn st i s) w (.tuple #[])) := by
  have hl := h.len
  have hlt := h.lt
  obtain ⟨o, ho⟩ : ∃ o, stateOf st i = o := ⟨_, rfl⟩
  have ho2 : o ≤ 2 := by have := (h.ok.2 i).1; omega
  have c1 := h.cellState (i := i) (by omega)
  rw [ho] at c1 hne
  have c2 := h.cellCnt (k := o) (by omega)
  have c3 := h.cellCnt (k := s) hs
  have b2 := cnt_le st o
  have b3 := cnt_le st s
  have f1 := h.frozen
  have R := Lib.hid (row_turn h hi hs ho hne)
  clear h ho
  go_enter Try.func26, Try.ntmps26
  go_wp2
  go_region
  all_goals go_wp2
  all_goals go_region
  all_goals go_end0
  all_goals exact ⟨rfl, R.out.drew.drew, ((((Upto.refl (· = b) w).setB rfl _).setB rfl _).setB rfl _).drew.drew⟩
end Go.Proofs.Ythfmngpocfofnaa
