/- A slab's leave, walked: what is deferred, and what comes ahead of it. -/
import Derived.Test.YthfmngpocfofnaaWalkC
import Derived.Defers
namespace Go.Proofs.Ythfmngpocfofnaa
open Go Go.RowKit Go.Deep Md

def bump (st : St) (i : Nat) : St := st.set i (stateOf st i, (genOf st i + 1) % 4294967296)

theorem row_bump {w : World} {b : Nat} {st : St} (h : SlabAt w b st) {i : Nat} (hi : i < st.length) :
    SlabAt (w.setCell ⟨b, i * 2 + 1, none⟩ (.int .u32 ((((genOf st i : Nat) : Int) + 1) % 4294967296))) b (bump st i) := by
  have hl := h.len
  refine ⟨?_, h.ok.set hi (h.ok.2 i).1 (Nat.mod_lt _ (by decide)), by simpa [bump] using h.pos⟩
  refine (h.row.set (i * 2 + 1) _).congr fun j hj => ?_
  have hc : ∀ k, cnt (bump st i) k = cnt st k := by
    intro k
    unfold bump
    rw [cnt_set _ _ _ _ hi]
    have := cnt_pos hi
    by_cases e : stateOf st i = k
    · subst e; simp; omega
    · simp [e]
  simp only [slabF]
  by_cases e1 : j = i * 2 + 1
  · subst e1
    rw [if_pos rfl, if_pos (by omega), if_neg (by omega), show (i * 2 + 1) / 2 = i from by omega]
    unfold bump; rw [genOf_set _ _ _ _ hi, if_pos rfl]; rfl
  · rw [if_neg e1]
    by_cases e4 : j < 512
    · rw [if_pos e4, if_pos e4]
      unfold bump
      rw [stateOf_set _ _ _ _ hi, genOf_set _ _ _ _ hi]
      by_cases e5 : j % 2 = 0
      · rw [if_pos e5, if_pos e5]
        by_cases e6 : j / 2 = i
        · rw [if_pos e6, e6]
        · rw [if_neg e6]
      · rw [if_neg e5, if_neg e5, if_neg (by omega)]
    · rw [if_neg e4, if_neg e4, hc, show (bump st i).length = st.length from by simp [bump]]

theorem bump_deferred (u : FrameMode) (w : World) (b n0 n1 : Nat) (st : St) (i : Nat) (h : SlabAt w b st) (hi : i < st.length)
    (hs : w.cell? ⟨n0, 0, none⟩ = some (.pointer (some ⟨b, 0, none⟩))) (hh : w.cell? ⟨n1, 0, none⟩ = some (.int .i64 i)) :
    CallsD Try.prog 28 #[.pointer (some ⟨n0, 0, none⟩), .pointer (some ⟨n1, 0, none⟩)] u w fun e u' w' => u' = u ∧ Turned b (bump st i) w (.tuple #[]) e w' := by
  have hl := h.len
  have c1 := h.cellGen (i := i) (by omega)
  have f1 := h.frozen (i * 2 + 1)
  have R := Lib.hid (row_bump h hi)
  have g1 := (h.ok.2 i).2
  clear h
  go_enter_d Try.func28, Try.ntmps28
  go_wp2
  go_region
  all_goals go_end0
  all_goals exact ⟨rfl, R.out.drew, ((Upto.refl (· = b) w).setB rfl _).drew⟩

theorem bump_turn {st : St} {i s : Nat} (hi : i < st.length) : bump (turn st i s) i = leave st i s := by
  unfold bump
  rw [show stateOf (turn st i s) i = s from by unfold turn; rw [stateOf_set _ _ _ _ hi, if_pos rfl],
    show genOf (turn st i s) i = genOf st i from by unfold turn; rw [genOf_set _ _ _ _ hi, if_pos rfl]]
  unfold turn leave
  simp

theorem leave_yes (w : World) (b : Nat) (st : St) (slot gen : Int) (s : Nat) (h : SlabAt w b st) (h1 : -9223372036854775808 ≤ slot) (h2 : slot ≤ 9223372036854775807) (g1 : 0 ≤ gen) (g2 : gen < 4294967296) (hs : s < 3) (hs1 : s ≠ 1)
    (hlive : liveB st slot gen = true) :
    Calls Try.prog 27 #[.pointer (some ⟨b, 0, none⟩), hv slot gen, .int .i64 s] w (Turned b (leave st slot.toNat s) w (.int .i64 0)) := by
  have hlt := h.lt
  have hl := h.len
  have hL := hlive
  simp only [liveB, Bool.and_eq_true, decide_eq_true_eq, beq_iff_eq] at hL
  obtain ⟨⟨⟨k0, k1⟩, k2⟩, k3⟩ := hL
  obtain ⟨n, rfl⟩ := Int.eq_ofNat_of_zero_le k0
  simp only [Int.toNat_natCast] at k2 k3 ⊢
  have hn : n < st.length := by omega
  have hne : stateOf st n ≠ s := by omega
  have R := bump_turn (s := s) hn
  have hB : SlabAt ((w.alloc (.cells #[.pointer (some ⟨b, 0, none⟩)] 24)).alloc (.cells #[.int .i64 n, .int .u32 gen] 31)) b st := (h.alloc _).alloc _
  have Rh := Lib.hid R
  have hU : Upto (· = b) w ((w.alloc (.cells #[.pointer (some ⟨b, 0, none⟩)] 24)).alloc (.cells #[.int .i64 n, .int .u32 gen] 31)) := ((Upto.refl _ w).alloc _).alloc _
  have qa := new_21 w #[.pointer (some ⟨b, 0, none⟩)] #[.int .i64 n, .int .u32 gen] 24 31 0 (.pointer (some ⟨b, 0, none⟩)) rfl
  have qb := new_22 w #[.pointer (some ⟨b, 0, none⟩)] #[.int .i64 n, .int .u32 gen] 24 31 0 (.int .i64 n) rfl
  clear k0 k1 k2 k3 R h
  go_enter_defers Try.func27, Try.ntmps27
  go_wp2_with (first
    | (go_at_call 25; refine (none_no _ _ _ hB).mono ?_; rintro e w' ⟨rfl, rfl⟩)
    | (go_at_call 10; refine (Live_any _ b st n gen hB h1 h2 g1 g2).mono ?_; rintro e w1 ⟨rfl, hu1⟩; have qa1 := hu1.keep qa id; have qb1 := hu1.keep qb id; have hB1 := hB.upto hu1 id)
    | (go_at_call 26; refine (turn_any _ b st n s hB1 hn hs hne).mono ?_; rintro e w2 ⟨rfl, hB2, hu2⟩))
  refine leaves_cons (f := 28) (args := #[.pointer (some ⟨w.heap.size, 0, none⟩), .pointer (some ⟨w.heap.size + 1, 0, none⟩)]) (by simp) (by simp [go_sem]) ?_
  refine (bump_deferred .returning w2 b w.heap.size (w.heap.size + 1) (turn st n s) n hB2 (by rw [turn_length]; exact hn) (hu2.keep qa1 (show ¬ w.heap.size = b by omega)) (hu2.keep qb1 (show ¬ w.heap.size + 1 = b by omega))).mono ?_
  rintro e u' w3 ⟨rfl, rfl, hB3, hu3⟩
  rw [Rh.out] at hB3
  exact ⟨_, results_tmp rfl _ _ _, rfl, hB3, ((hU.trans (hu1.mono (fun _ _ h => h.elim))).trans hu2).trans hu3⟩

theorem leave_no (w : World) (b : Nat) (st : St) (slot gen : Int) (s : Nat) (h : SlabAt w b st) (h1 : -9223372036854775808 ≤ slot) (h2 : slot ≤ 9223372036854775807) (g1 : 0 ≤ gen) (g2 : gen < 4294967296)
    (hlive : liveB st slot gen = false) :
    Calls Try.prog 27 #[.pointer (some ⟨b, 0, none⟩), hv slot gen, .int .i64 s] w (Turned b st w (.int .i64 9)) := by
  have hB : SlabAt ((w.alloc (.cells #[.pointer (some ⟨b, 0, none⟩)] 24)).alloc (.cells #[.int .i64 slot, .int .u32 gen] 31)) b st := (h.alloc _).alloc _
  have hU : Upto (· = b) w ((w.alloc (.cells #[.pointer (some ⟨b, 0, none⟩)] 24)).alloc (.cells #[.int .i64 slot, .int .u32 gen] 31)) := ((Upto.refl _ w).alloc _).alloc _
  clear h
  go_enter_defers Try.func27, Try.ntmps27
  go_wp2_with (first
    | (go_at_call 25; refine (none_no _ _ _ hB).mono ?_; rintro e w' ⟨rfl, rfl⟩)
    | (go_at_call 10; refine (Live_any _ b st slot gen hB h1 h2 g1 g2).mono ?_; rintro e w1 ⟨rfl, hu1⟩))
  exact ⟨_, results_tmp rfl _ _ _, rfl, hB.upto hu1 id, hU.trans (hu1.mono (fun _ _ h => h.elim))⟩

/-- What leave answers, and what becomes of the slots. -/
def leaveE (st : St) (slot gen : Int) : Int := if liveB st slot gen then 0 else 9
def leaveSt (st : St) (slot gen : Int) (s : Nat) : St := if liveB st slot gen then leave st slot.toNat s else st

theorem leave_any (w : World) (b : Nat) (st : St) (slot gen : Int) (s : Nat) (h : SlabAt w b st) (h1 : -9223372036854775808 ≤ slot) (h2 : slot ≤ 9223372036854775807) (g1 : 0 ≤ gen) (g2 : gen < 4294967296) (hs : s < 3) (hs1 : s ≠ 1) :
    Calls Try.prog 27 #[.pointer (some ⟨b, 0, none⟩), hv slot gen, .int .i64 s] w (Turned b (leaveSt st slot gen s) w (.int .i64 (leaveE st slot gen))) := by
  cases hl : liveB st slot gen
  · simp only [leaveSt, leaveE, hl]; exact leave_no w b st slot gen s h h1 h2 g1 g2 hl
  · simp only [leaveSt, leaveE, hl]; exact leave_yes w b st slot gen s h h1 h2 g1 g2 hs hs1 hl

theorem Give_any (w : World) (b : Nat) (st : St) (slot gen : Int) (h : SlabAt w b st) (h1 : -9223372036854775808 ≤ slot) (h2 : slot ≤ 9223372036854775807) (g1 : 0 ≤ gen) (g2 : gen < 4294967296) :
    Calls Try.prog 11 #[.pointer (some ⟨b, 0, none⟩), hv slot gen] w (Turned b (leaveSt st slot gen 0) w (.int .i64 (leaveE st slot gen))) := by
  have hB := h.alloc (.cells #[.int .i64 slot, .int .u32 gen] 31)
  have hU : Upto (· = b) w (w.alloc (.cells #[.int .i64 slot, .int .u32 gen] 31)) := (Upto.refl _ w).alloc _
  clear h
  go_enter Try.func11, Try.ntmps11
  go_wp2_with (go_at_call 27; refine (leave_any _ b st slot gen 0 hB h1 h2 g1 g2 (by omega) (by omega)).mono ?_; rintro e w1 ⟨rfl, hB1, hu1⟩)
  go_ret
  exact ⟨rfl, hB1, hU.trans hu1⟩

theorem Retire_any (w : World) (b : Nat) (st : St) (slot gen : Int) (h : SlabAt w b st) (h1 : -9223372036854775808 ≤ slot) (h2 : slot ≤ 9223372036854775807) (g1 : 0 ≤ gen) (g2 : gen < 4294967296) :
    Calls Try.prog 14 #[.pointer (some ⟨b, 0, none⟩), hv slot gen] w (Turned b (leaveSt st slot gen 2) w (.int .i64 (leaveE st slot gen))) := by
  have hB := h.alloc (.cells #[.int .i64 slot, .int .u32 gen] 31)
  have hU : Upto (· = b) w (w.alloc (.cells #[.int .i64 slot, .int .u32 gen] 31)) := (Upto.refl _ w).alloc _
  clear h
  go_enter Try.func14, Try.ntmps14
  go_wp2_with (go_at_call 27; refine (leave_any _ b st slot gen 2 hB h1 h2 g1 g2 (by omega) (by omega)).mono ?_; rintro e w1 ⟨rfl, hB1, hu1⟩)
  go_ret
  exact ⟨rfl, hB1, hU.trans hu1⟩
end Go.Proofs.Ythfmngpocfofnaa
