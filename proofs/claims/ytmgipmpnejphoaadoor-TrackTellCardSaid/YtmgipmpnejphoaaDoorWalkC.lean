/- The reference's First, Early, Next, walked. -/
import Derived.Test.YtmgipmpnejphoaaDoorWalkB
namespace Go.Proofs.YtmgipmpnejphoaaDoor
open Go Go.RowKit Go.Deep

theorem First_ref (w : World) (f : Int) (fl : Nat) (hf : fl < 256) : Calls Tryd.prog 18 #[.int .i64 f, .int .u8 fl] w (Told (okV (okF f fl)) w) := by
  have U : Upto NoS w w := Upto.refl _ _
  rcases (by omega : f < 1 ∨ 3 < f ∨ f = 1 ∨ f = 2 ∨ f = 3) with h | h | rfl | rfl | rfl
  · rw [show okF f fl = false from by simp [okF, show ¬ f = 1 by omega, show ¬ f = 2 by omega, show ¬ f = 3 by omega]]
    go_enter Tryd.func18, Tryd.ntmps18
    go_wp2_with (go_at_call 22; refine (flag_to _ _ _ _ hf (by omega) (by assumption)).mono ?_; rintro e w' ⟨rfl, hu'⟩; replace U := U.trans hu')
    go_ret2
    exact ⟨rfl, U⟩
  · have h' : ¬ f < 1 := by omega
    rw [show okF f fl = false from by simp [okF, show ¬ f = 1 by omega, show ¬ f = 2 by omega, show ¬ f = 3 by omega]]
    go_enter Tryd.func18, Tryd.ntmps18
    go_wp2_with (go_at_call 22; refine (flag_to _ _ _ _ hf (by omega) (by assumption)).mono ?_; rintro e w' ⟨rfl, hu'⟩; replace U := U.trans hu')
    go_ret2
    exact ⟨rfl, U⟩
  · go_enter Tryd.func18, Tryd.ntmps18
    go_wp2_with (go_at_call 22; refine (flag_to _ _ _ _ hf (by omega) (by assumption)).mono ?_; rintro e w' ⟨rfl, hu'⟩; replace U := U.trans hu')
    go_ret2
    exact ⟨rfl, U⟩
  · go_enter Tryd.func18, Tryd.ntmps18
    go_wp2_with (go_at_call 22; refine (flag_to _ _ _ _ hf (by omega) (by assumption)).mono ?_; rintro e w' ⟨rfl, hu'⟩; replace U := U.trans hu')
    go_ret2
    exact ⟨rfl, U⟩
  · have hs := syn_is fl hf
    cases h2 : hasB fl 2
    · rw [show okF 3 fl = false from by simp [okF, hs, h2]]
      go_enter Tryd.func18, Tryd.ntmps18
      go_wp2_with (go_at_call 22; refine (flag_to _ _ _ _ hf (by omega) (by assumption)).mono ?_; rintro e w' ⟨rfl, hu'⟩; replace U := U.trans hu')
      go_ret2
      exact ⟨rfl, U⟩
    · cases h1 : hasB fl 1
      · cases h4 : hasB fl 4
        · cases h16 : hasB fl 16
          · rw [show okF 3 fl = true from by simp [okF, hs, h1, h2, h4, h16]]
            go_enter Tryd.func18, Tryd.ntmps18
            go_wp2_with (go_at_call 22; refine (flag_to _ _ _ _ hf (by omega) (by assumption)).mono ?_; rintro e w' ⟨rfl, hu'⟩; replace U := U.trans hu')
            go_ret2
            exact ⟨rfl, U⟩
          · rw [show okF 3 fl = false from by simp [okF, hs, h1, h2, h4, h16]]
            go_enter Tryd.func18, Tryd.ntmps18
            go_wp2_with (go_at_call 22; refine (flag_to _ _ _ _ hf (by omega) (by assumption)).mono ?_; rintro e w' ⟨rfl, hu'⟩; replace U := U.trans hu')
            go_ret2
            exact ⟨rfl, U⟩
        · rw [show okF 3 fl = false from by simp [okF, hs, h1, h2, h4]]
          go_enter Tryd.func18, Tryd.ntmps18
          go_wp2_with (go_at_call 22; refine (flag_to _ _ _ _ hf (by omega) (by assumption)).mono ?_; rintro e w' ⟨rfl, hu'⟩; replace U := U.trans hu')
          go_ret2
          exact ⟨rfl, U⟩
      · rw [show okF 3 fl = false from by simp [okF, hs, h1, h2]]
        go_enter Tryd.func18, Tryd.ntmps18
        go_wp2_with (go_at_call 22; refine (flag_to _ _ _ _ hf (by omega) (by assumption)).mono ?_; rintro e w' ⟨rfl, hu'⟩; replace U := U.trans hu')
        go_ret2
        exact ⟨rfl, U⟩

theorem Early_ref (w : World) (f st : Int) : Calls Tryd.prog 14 #[.int .i64 f, .int .i64 st] w (Told (.bool (earlyB f st)) w) := by
  have U : Upto NoS w w := Upto.refl _ _
  by_cases ht : 0 < timeoutI f st
  · by_cases h3 : f = 3
    · subst h3
      by_cases s3 : st = 3
      · subst s3
        rw [show earlyB 3 3 = false from by simp [earlyB]]
        go_enter Tryd.func14, Tryd.ntmps14
        go_wp2_with (go_at_call 13; refine (Timeout_ref _ _ _).mono ?_; rintro e w' ⟨rfl, hu'⟩; replace U := U.trans hu')
        go_ret
        exact ⟨rfl, U⟩
      · have k : (st == 3) = false := beq_eq_false_iff_ne.2 s3
        have k' : (st != 3) = true := by simp [s3]
        rw [show earlyB 3 st = true from by simp [earlyB, mayB, ht, s3]]
        go_enter Tryd.func14, Tryd.ntmps14
        go_wp2_with (go_at_call 13; refine (Timeout_ref _ _ _).mono ?_; rintro e w' ⟨rfl, hu'⟩; replace U := U.trans hu')
        go_ret
        exact ⟨rfl, U⟩
    · have k3 : (f == 3) = false := beq_eq_false_iff_ne.2 h3
      have k3' : (f != 3) = true := by simp [h3]
      rw [show earlyB f st = (st == 1) from by simp [earlyB, mayB, ht, h3]]
      go_enter Tryd.func14, Tryd.ntmps14
      go_wp2_with (go_at_call 13; refine (Timeout_ref _ _ _).mono ?_; rintro e w' ⟨rfl, hu'⟩; replace U := U.trans hu')
      go_ret
      exact ⟨rfl, U⟩
  · rw [show earlyB f st = false from by simp [earlyB, mayB, ht]]
    go_enter Tryd.func14, Tryd.ntmps14
    go_wp2_with (go_at_call 13; refine (Timeout_ref _ _ _).mono ?_; rintro e w' ⟨rfl, hu'⟩; replace U := U.trans hu')
    go_ret
    exact ⟨rfl, U⟩

theorem Next_ref (w : World) (f st : Int) (back : Bool) (fl : Nat) (hf : fl < 256) : Calls Tryd.prog 16 #[.int .i64 f, .int .i64 st, .bool back, .int .u8 fl] w (Told (.int .i64 (nextI f st back fl)) w) := by
  have U : Upto NoS w w := Upto.refl _ _
  have hnn := timeout_nn f st
  by_cases ht : timeoutI f st = 0
  · clear hnn
    rw [show nextI f st back fl = 0 from by simp [nextI, mayB, ht]]
    go_enter Tryd.func16, Tryd.ntmps16
    go_wp2_with (first | (go_at_call 13; refine (Timeout_ref _ _ _).mono ?_; rintro e w' ⟨rfl, hu'⟩; replace U := U.trans hu') | (go_at_call 22; refine (flag_to _ _ _ _ hf (by omega) (by assumption)).mono ?_; rintro e w' ⟨rfl, hu'⟩; replace U := U.trans hu'))
    go_ret
    exact ⟨rfl, U⟩
  · have kt : (timeoutI f st == 0) = false := beq_eq_false_iff_ne.2 ht
    have hm : mayB f st = true := by simp [mayB]; omega
    clear hnn
    have hr := may_range hm
    by_cases h3 : f = 3
    · subst h3
      have hr' : 1 ≤ st ∧ st ≤ 7 := by omega
      clear hr
      cases h4 : hasB fl 4
      · by_cases s7 : st = 7
        · subst s7
          clear hr'
          rw [show nextI 3 7 back fl = 7 from by simp [nextI, hm, trackedI, h4]]
          go_enter Tryd.func16, Tryd.ntmps16
          go_wp2_with (first | (go_at_call 13; refine (Timeout_ref _ _ _).mono ?_; rintro e w' ⟨rfl, hu'⟩; replace U := U.trans hu') | (go_at_call 22; refine (flag_to _ _ _ _ hf (by omega) (by assumption)).mono ?_; rintro e w' ⟨rfl, hu'⟩; replace U := U.trans hu'))
          go_ret
          exact ⟨rfl, U⟩
        · have k7 : (st == 7) = false := beq_eq_false_iff_ne.2 s7
          cases h1 : hasB fl 1
          · rcases (by omega : st = 1 ∨ st = 2 ∨ (st ≠ 1 ∧ st ≠ 2)) with rfl | rfl | ⟨n1, n2⟩
            · clear hr' k7 s7 ht kt
              cases back
              · rw [show nextI 3 1 false fl = 1 from by simp [nextI, hm, trackedI, h4, h1]]
                go_enter Tryd.func16, Tryd.ntmps16
                go_wp2_with (first | (go_at_call 13; refine (Timeout_ref _ _ _).mono ?_; rintro e w' ⟨rfl, hu'⟩; replace U := U.trans hu') | (go_at_call 22; refine (flag_to _ _ _ _ hf (by omega) (by assumption)).mono ?_; rintro e w' ⟨rfl, hu'⟩; replace U := U.trans hu'))
                go_ret
                exact ⟨rfl, U⟩
              · cases h2 : hasB fl 2
                · rw [show nextI 3 1 true fl = 1 from by simp [nextI, hm, trackedI, h4, h1, h2]]
                  go_enter Tryd.func16, Tryd.ntmps16
                  go_wp2_with (first | (go_at_call 13; refine (Timeout_ref _ _ _).mono ?_; rintro e w' ⟨rfl, hu'⟩; replace U := U.trans hu') | (go_at_call 22; refine (flag_to _ _ _ _ hf (by omega) (by assumption)).mono ?_; rintro e w' ⟨rfl, hu'⟩; replace U := U.trans hu'))
                  go_ret
                  exact ⟨rfl, U⟩
                · rw [show nextI 3 1 true fl = 2 from by simp [nextI, hm, trackedI, h4, h1, h2]]
                  go_enter Tryd.func16, Tryd.ntmps16
                  go_wp2_with (first | (go_at_call 13; refine (Timeout_ref _ _ _).mono ?_; rintro e w' ⟨rfl, hu'⟩; replace U := U.trans hu') | (go_at_call 22; refine (flag_to _ _ _ _ hf (by omega) (by assumption)).mono ?_; rintro e w' ⟨rfl, hu'⟩; replace U := U.trans hu'))
                  go_ret
                  exact ⟨rfl, U⟩
            · clear hr' k7 s7 ht kt
              cases back
              · cases h16 : hasB fl 16
                · rw [show nextI 3 2 false fl = 2 from by simp [nextI, hm, trackedI, h4, h1, h16]]
                  go_enter Tryd.func16, Tryd.ntmps16
                  go_wp2_with (first | (go_at_call 13; refine (Timeout_ref _ _ _).mono ?_; rintro e w' ⟨rfl, hu'⟩; replace U := U.trans hu') | (go_at_call 22; refine (flag_to _ _ _ _ hf (by omega) (by assumption)).mono ?_; rintro e w' ⟨rfl, hu'⟩; replace U := U.trans hu'))
                  go_ret
                  exact ⟨rfl, U⟩
                · cases h2 : hasB fl 2
                  · rw [show nextI 3 2 false fl = 3 from by simp [nextI, hm, trackedI, h4, h1, h16, h2]]
                    go_enter Tryd.func16, Tryd.ntmps16
                    go_wp2_with (first | (go_at_call 13; refine (Timeout_ref _ _ _).mono ?_; rintro e w' ⟨rfl, hu'⟩; replace U := U.trans hu') | (go_at_call 22; refine (flag_to _ _ _ _ hf (by omega) (by assumption)).mono ?_; rintro e w' ⟨rfl, hu'⟩; replace U := U.trans hu'))
                    go_ret
                    exact ⟨rfl, U⟩
                  · rw [show nextI 3 2 false fl = 2 from by simp [nextI, hm, trackedI, h4, h1, h16, h2]]
                    go_enter Tryd.func16, Tryd.ntmps16
                    go_wp2_with (first | (go_at_call 13; refine (Timeout_ref _ _ _).mono ?_; rintro e w' ⟨rfl, hu'⟩; replace U := U.trans hu') | (go_at_call 22; refine (flag_to _ _ _ _ hf (by omega) (by assumption)).mono ?_; rintro e w' ⟨rfl, hu'⟩; replace U := U.trans hu'))
                    go_ret
                    exact ⟨rfl, U⟩
              · rw [show nextI 3 2 true fl = 2 from by simp [nextI, hm, trackedI, h4, h1]]
                go_enter Tryd.func16, Tryd.ntmps16
                go_wp2_with (first | (go_at_call 13; refine (Timeout_ref _ _ _).mono ?_; rintro e w' ⟨rfl, hu'⟩; replace U := U.trans hu') | (go_at_call 22; refine (flag_to _ _ _ _ hf (by omega) (by assumption)).mono ?_; rintro e w' ⟨rfl, hu'⟩; replace U := U.trans hu'))
                go_ret
                exact ⟨rfl, U⟩
            · have k1 : (st == 1) = false := beq_eq_false_iff_ne.2 n1
              have k2 : (st == 2) = false := beq_eq_false_iff_ne.2 n2
              rw [show nextI 3 st back fl = st from by simp [nextI, hm, trackedI, h4, h1, s7, n1, n2]]
              go_enter Tryd.func16, Tryd.ntmps16
              go_wp2_with (first | (go_at_call 13; refine (Timeout_ref _ _ _).mono ?_; rintro e w' ⟨rfl, hu'⟩; replace U := U.trans hu') | (go_at_call 22; refine (flag_to _ _ _ _ hf (by omega) (by assumption)).mono ?_; rintro e w' ⟨rfl, hu'⟩; replace U := U.trans hu'))
              go_ret
              exact ⟨rfl, U⟩
          · rcases (by omega : st = 4 ∨ st = 5 ∨ st = 6 ∨ (st ≠ 4 ∧ st ≠ 5 ∧ st ≠ 6)) with rfl | rfl | rfl | ⟨n4, n5, n6⟩
            · clear hr' k7 s7 ht kt
              cases back
              · rw [show nextI 3 4 false fl = 4 from by simp [nextI, hm, trackedI, h4, h1, endsI]]
                go_enter Tryd.func16, Tryd.ntmps16
                go_wp2_with (first | (go_at_call 13; refine (Timeout_ref _ _ _).mono ?_; rintro e w' ⟨rfl, hu'⟩; replace U := U.trans hu') | (go_at_call 22; refine (flag_to _ _ _ _ hf (by omega) (by assumption)).mono ?_; rintro e w' ⟨rfl, hu'⟩; replace U := U.trans hu'))
                go_ret
                exact ⟨rfl, U⟩
              · rw [show nextI 3 4 true fl = 6 from by simp [nextI, hm, trackedI, h4, h1, endsI]]
                go_enter Tryd.func16, Tryd.ntmps16
                go_wp2_with (first | (go_at_call 13; refine (Timeout_ref _ _ _).mono ?_; rintro e w' ⟨rfl, hu'⟩; replace U := U.trans hu') | (go_at_call 22; refine (flag_to _ _ _ _ hf (by omega) (by assumption)).mono ?_; rintro e w' ⟨rfl, hu'⟩; replace U := U.trans hu'))
                go_ret
                exact ⟨rfl, U⟩
            · clear hr' k7 s7 ht kt
              cases back
              · rw [show nextI 3 5 false fl = 6 from by simp [nextI, hm, trackedI, h4, h1, endsI]]
                go_enter Tryd.func16, Tryd.ntmps16
                go_wp2_with (first | (go_at_call 13; refine (Timeout_ref _ _ _).mono ?_; rintro e w' ⟨rfl, hu'⟩; replace U := U.trans hu') | (go_at_call 22; refine (flag_to _ _ _ _ hf (by omega) (by assumption)).mono ?_; rintro e w' ⟨rfl, hu'⟩; replace U := U.trans hu'))
                go_ret
                exact ⟨rfl, U⟩
              · rw [show nextI 3 5 true fl = 5 from by simp [nextI, hm, trackedI, h4, h1, endsI]]
                go_enter Tryd.func16, Tryd.ntmps16
                go_wp2_with (first | (go_at_call 13; refine (Timeout_ref _ _ _).mono ?_; rintro e w' ⟨rfl, hu'⟩; replace U := U.trans hu') | (go_at_call 22; refine (flag_to _ _ _ _ hf (by omega) (by assumption)).mono ?_; rintro e w' ⟨rfl, hu'⟩; replace U := U.trans hu'))
                go_ret
                exact ⟨rfl, U⟩
            · clear hr' k7 s7 ht kt
              cases back
              · rw [show nextI 3 6 false fl = 6 from by simp [nextI, hm, trackedI, h4, h1, endsI]]
                go_enter Tryd.func16, Tryd.ntmps16
                go_wp2_with (first | (go_at_call 13; refine (Timeout_ref _ _ _).mono ?_; rintro e w' ⟨rfl, hu'⟩; replace U := U.trans hu') | (go_at_call 22; refine (flag_to _ _ _ _ hf (by omega) (by assumption)).mono ?_; rintro e w' ⟨rfl, hu'⟩; replace U := U.trans hu'))
                go_ret
                exact ⟨rfl, U⟩
              · rw [show nextI 3 6 true fl = 6 from by simp [nextI, hm, trackedI, h4, h1, endsI]]
                go_enter Tryd.func16, Tryd.ntmps16
                go_wp2_with (first | (go_at_call 13; refine (Timeout_ref _ _ _).mono ?_; rintro e w' ⟨rfl, hu'⟩; replace U := U.trans hu') | (go_at_call 22; refine (flag_to _ _ _ _ hf (by omega) (by assumption)).mono ?_; rintro e w' ⟨rfl, hu'⟩; replace U := U.trans hu'))
                go_ret
                exact ⟨rfl, U⟩
            · have k4 : (st == 4) = false := beq_eq_false_iff_ne.2 n4
              have k5 : (st == 5) = false := beq_eq_false_iff_ne.2 n5
              have k6 : (st == 6) = false := beq_eq_false_iff_ne.2 n6
              cases back
              · rw [show nextI 3 st false fl = 4 from by simp [nextI, hm, trackedI, h4, h1, endsI, s7, n4, n5, n6]]
                go_enter Tryd.func16, Tryd.ntmps16
                go_wp2_with (first | (go_at_call 13; refine (Timeout_ref _ _ _).mono ?_; rintro e w' ⟨rfl, hu'⟩; replace U := U.trans hu') | (go_at_call 22; refine (flag_to _ _ _ _ hf (by omega) (by assumption)).mono ?_; rintro e w' ⟨rfl, hu'⟩; replace U := U.trans hu'))
                go_ret
                exact ⟨rfl, U⟩
              · rw [show nextI 3 st true fl = 5 from by simp [nextI, hm, trackedI, h4, h1, endsI, s7, n4, n5, n6]]
                go_enter Tryd.func16, Tryd.ntmps16
                go_wp2_with (first | (go_at_call 13; refine (Timeout_ref _ _ _).mono ?_; rintro e w' ⟨rfl, hu'⟩; replace U := U.trans hu') | (go_at_call 22; refine (flag_to _ _ _ _ hf (by omega) (by assumption)).mono ?_; rintro e w' ⟨rfl, hu'⟩; replace U := U.trans hu'))
                go_ret
                exact ⟨rfl, U⟩
      · rw [show nextI 3 st back fl = 7 from by simp [nextI, hm, trackedI, h4]]
        go_enter Tryd.func16, Tryd.ntmps16
        go_wp2_with (first | (go_at_call 13; refine (Timeout_ref _ _ _).mono ?_; rintro e w' ⟨rfl, hu'⟩; replace U := U.trans hu') | (go_at_call 22; refine (flag_to _ _ _ _ hf (by omega) (by assumption)).mono ?_; rintro e w' ⟨rfl, hu'⟩; replace U := U.trans hu'))
        go_ret
        exact ⟨rfl, U⟩
    · have h3' : f < 3 := by omega
      clear hr
      cases back
      · rw [show nextI f st false fl = st from by simp [nextI, hm, h3]]
        go_enter Tryd.func16, Tryd.ntmps16
        go_wp2_with (first | (go_at_call 13; refine (Timeout_ref _ _ _).mono ?_; rintro e w' ⟨rfl, hu'⟩; replace U := U.trans hu') | (go_at_call 22; refine (flag_to _ _ _ _ hf (by omega) (by assumption)).mono ?_; rintro e w' ⟨rfl, hu'⟩; replace U := U.trans hu'))
        go_ret
        exact ⟨rfl, U⟩
      · rw [show nextI f st true fl = 2 from by simp [nextI, hm, h3]]
        go_enter Tryd.func16, Tryd.ntmps16
        go_wp2_with (first | (go_at_call 13; refine (Timeout_ref _ _ _).mono ?_; rintro e w' ⟨rfl, hu'⟩; replace U := U.trans hu') | (go_at_call 22; refine (flag_to _ _ _ _ hf (by omega) (by assumption)).mono ?_; rintro e w' ⟨rfl, hu'⟩; replace U := U.trans hu'))
        go_ret
        exact ⟨rfl, U⟩
end Go.Proofs.YtmgipmpnejphoaaDoor
