/- The small functions of track and of its reference, walked. -/
import Derived.Test.YtmgipmpnejphoaaDoorModel
namespace Go.Proofs.YtmgipmpnejphoaaDoor
open Go Go.RowKit Go.Deep

theorem has_to (w : World) (back : Bool) (fl : Nat) (n : Int) (q : Bool) (_hf : fl < 256) (_hn : 0 ≤ n ∧ n < 256) (h : hasB fl n = q) : Calls Tryd.prog 23 #[sv back fl, .int .u8 n] w (Told (.bool q) w) := by
  subst h
  go_enter Tryd.func23, Tryd.ntmps23
  go_wp2
  go_ret
  exact ⟨rfl, (Upto.refl _ _).alloc _⟩
theorem flag_to (w : World) (fl : Nat) (n : Int) (q : Bool) (hf : fl < 256) (hn : n = 1 ∨ n = 2 ∨ n = 4 ∨ n = 16) (h : hasB fl n = q) : Calls Tryd.prog 22 #[.int .u8 fl, .int .u8 n] w (Told (.bool q) w) := by
  rw [← flag_is n hn fl hf] at h
  subst h
  have h0 : ¬ n = 0 := by omega
  have h1 : 0 < n := by omega
  have h2 : (fl : Int) / n < 256 := by rcases hn with rfl | rfl | rfl | rfl <;> omega
  have h3 : 0 ≤ (fl : Int) / n := by rcases hn with rfl | rfl | rfl | rfl <;> omega
  go_enter Tryd.func22, Tryd.ntmps22
  go_wp2
  go_ret
  exact ⟨rfl, Upto.refl _ _⟩
theorem Timeout_ref (w : World) (f s : Int) : Calls Tryd.prog 13 #[.int .i64 f, .int .i64 s] w (Told (.int .i64 (timeoutI f s)) w) := by
  rcases (by omega : s = 1 ∨ s = 2 ∨ (s ≠ 1 ∧ s ≠ 2)) with rfl | rfl | ⟨e1, e2⟩
  · rcases (by omega : f = 1 ∨ f = 2 ∨ f = 3 ∨ (f ≠ 1 ∧ f ≠ 2 ∧ f ≠ 3)) with rfl | rfl | rfl | ⟨g1, g2, g3⟩
    rotate_right
    · have k1 : (f == 1) = false := beq_eq_false_iff_ne.2 g1
      have k2 : (f == 2) = false := beq_eq_false_iff_ne.2 g2
      have k3 : (f == 3) = false := beq_eq_false_iff_ne.2 g3
      rw [show timeoutI f 1 = 0 from by simp [timeoutI, g1, g2, g3]]
      go_enter Tryd.func13, Tryd.ntmps13
      go_wp2
      go_ret
      exact ⟨rfl, Upto.refl _ _⟩
    all_goals
      go_enter Tryd.func13, Tryd.ntmps13
      go_wp2
      go_ret
      exact ⟨rfl, Upto.refl _ _⟩
  · rcases (by omega : f = 1 ∨ f = 2 ∨ f = 3 ∨ (f ≠ 1 ∧ f ≠ 2 ∧ f ≠ 3)) with rfl | rfl | rfl | ⟨g1, g2, g3⟩
    rotate_right
    · have k1 : (f == 1) = false := beq_eq_false_iff_ne.2 g1
      have k2 : (f == 2) = false := beq_eq_false_iff_ne.2 g2
      have k3 : (f == 3) = false := beq_eq_false_iff_ne.2 g3
      rw [show timeoutI f 2 = 0 from by simp [timeoutI, g1, g2, g3]]
      go_enter Tryd.func13, Tryd.ntmps13
      go_wp2
      go_ret
      exact ⟨rfl, Upto.refl _ _⟩
    all_goals
      go_enter Tryd.func13, Tryd.ntmps13
      go_wp2
      go_ret
      exact ⟨rfl, Upto.refl _ _⟩
  · have k1 : (s == 1) = false := beq_eq_false_iff_ne.2 e1
    have k2 : (s == 2) = false := beq_eq_false_iff_ne.2 e2
    by_cases g3 : f = 3
    · subst g3
      rcases (by omega : s < 1 ∨ 7 < s ∨ s = 3 ∨ (1 ≤ s ∧ s ≤ 7 ∧ s ≠ 3)) with h | h | h | ⟨ha, hb, hc⟩
      · rw [show timeoutI 3 s = 0 from by simp [timeoutI, show ¬ s = 3 by omega, show ¬ 1 ≤ s by omega]]
        go_enter Tryd.func13, Tryd.ntmps13
        go_wp2
        go_ret
        exact ⟨rfl, Upto.refl _ _⟩
      · have h' : ¬ s < 1 := by omega
        rw [show timeoutI 3 s = 0 from by simp [timeoutI, show ¬ s = 3 by omega, show ¬ s ≤ 7 by omega]]
        go_enter Tryd.func13, Tryd.ntmps13
        go_wp2
        go_ret
        exact ⟨rfl, Upto.refl _ _⟩
      · subst h
        go_enter Tryd.func13, Tryd.ntmps13
        go_wp2
        go_ret
        exact ⟨rfl, Upto.refl _ _⟩
      · have h' : ¬ s < 1 := by omega
        have h'' : ¬ 7 < s := by omega
        have k3 : (s == 3) = false := beq_eq_false_iff_ne.2 hc
        rw [show timeoutI 3 s = 240 from by simp [timeoutI, hc, ha, hb]]
        go_enter Tryd.func13, Tryd.ntmps13
        go_wp2
        go_ret
        exact ⟨rfl, Upto.refl _ _⟩
    · have k3 : (f == 3) = false := beq_eq_false_iff_ne.2 g3
      rw [show timeoutI f s = 0 from by simp [timeoutI, e1, e2, g3]]
      go_enter Tryd.func13, Tryd.ntmps13
      go_wp2
      go_ret
      exact ⟨rfl, Upto.refl _ _⟩
theorem Timeout_any (w : World) (f s : Int) (hT : Tab w) : Calls Tryd.prog 12 #[.int .i64 f, .int .i64 s] w (Told (.int .i64 (timeoutI f s)) w) := by
  by_cases h1 : f < 0
  · rw [show timeoutI f s = 0 from by simp [timeoutI, show ¬ f = 1 by omega, show ¬ f = 2 by omega, show ¬ f = 3 by omega]]
    clear hT
    go_enter Tryd.func12, Tryd.ntmps12
    go_wp2
    go_ret
    exact ⟨rfl, Upto.refl _ _⟩
  · by_cases h2 : 4 ≤ f
    · rw [show timeoutI f s = 0 from by simp [timeoutI, show ¬ f = 1 by omega, show ¬ f = 2 by omega, show ¬ f = 3 by omega]]
      clear hT
      go_enter Tryd.func12, Tryd.ntmps12
      go_wp2
      go_ret
      exact ⟨rfl, Upto.refl _ _⟩
    · by_cases h3 : s < 0
      · rw [show timeoutI f s = 0 from by simp [timeoutI, show ¬ s = 1 by omega, show ¬ s = 2 by omega, show ¬ s = 3 by omega, show ¬ 1 ≤ s by omega]]
        clear hT
        go_enter Tryd.func12, Tryd.ntmps12
        go_wp2
        go_ret
        exact ⟨rfl, Upto.refl _ _⟩
      · by_cases h4 : 7 < s
        · rw [show timeoutI f s = 0 from by simp [timeoutI, show ¬ s = 1 by omega, show ¬ s = 2 by omega, show ¬ s = 3 by omega, show ¬ s ≤ 7 by omega]]
          clear hT
          go_enter Tryd.func12, Tryd.ntmps12
          go_wp2
          go_ret
          exact ⟨rfl, Upto.refl _ _⟩
        · obtain ⟨f, rfl⟩ := Int.eq_ofNat_of_zero_le (by omega : 0 ≤ f)
          obtain ⟨s, rfl⟩ := Int.eq_ofNat_of_zero_le (by omega : 0 ≤ s)
          have hc := hT.2 f s (by omega) (by omega)
          clear hT
          go_enter Tryd.func12, Tryd.ntmps12
          go_wp2
          go_ret
          exact ⟨rfl, Upto.refl _ _⟩
theorem May_to (w : World) (f s : Int) (q : Bool) (hT : Tab w) (h : mayB f s = q) : Calls Tryd.prog 10 #[.int .i64 f, .int .i64 s] w (Told (.bool q) w) := by
  subst h
  go_enter Tryd.func10, Tryd.ntmps10
  go_wp2_with (go_at_call 12; refine (Timeout_any w f s hT).mono ?_; rintro e w1 ⟨rfl, hu⟩)
  go_ret
  exact ⟨rfl, hu⟩
end Go.Proofs.YtmgipmpnejphoaaDoor
