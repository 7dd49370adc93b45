/- Track's and its reference's First, Next, Early, Flow, walked. -/
import Derived.Test.YtmgipmpnejphoaaDoorWalkA
namespace Go.Proofs.YtmgipmpnejphoaaDoor
open Go Go.RowKit Go.Deep

abbrev okV (ok : Bool) : Value := .tuple #[.int .i64 (if ok then 1 else 0), .bool ok]
theorem ends_any (w : World) (st : Int) (back : Bool) (fl : Nat) : Calls Tryd.prog 24 #[.int .i64 st, sv back fl] w (Told (.int .i64 (endsI st back)) w) := by
  cases back
  · rcases (by omega : st = 5 ∨ st = 6 ∨ (st ≠ 5 ∧ st ≠ 6)) with rfl | rfl | ⟨h1, h2⟩
    rotate_right
    · have k1 : (st == 5) = false := beq_eq_false_iff_ne.2 h1
      have k2 : (st == 6) = false := beq_eq_false_iff_ne.2 h2
      rw [show endsI st false = 4 from by simp [endsI, h1, h2]]
      go_enter Tryd.func24, Tryd.ntmps24
      go_wp2
      go_ret
      exact ⟨rfl, (Upto.refl _ _).alloc _⟩
    all_goals
      go_enter Tryd.func24, Tryd.ntmps24
      go_wp2
      go_ret
      exact ⟨rfl, (Upto.refl _ _).alloc _⟩
  · rcases (by omega : st = 4 ∨ st = 6 ∨ (st ≠ 4 ∧ st ≠ 6)) with rfl | rfl | ⟨h1, h2⟩
    rotate_right
    · have k1 : (st == 4) = false := beq_eq_false_iff_ne.2 h1
      have k2 : (st == 6) = false := beq_eq_false_iff_ne.2 h2
      rw [show endsI st true = 5 from by simp [endsI, h1, h2]]
      go_enter Tryd.func24, Tryd.ntmps24
      go_wp2
      go_ret
      exact ⟨rfl, (Upto.refl _ _).alloc _⟩
    all_goals
      go_enter Tryd.func24, Tryd.ntmps24
      go_wp2
      go_ret
      exact ⟨rfl, (Upto.refl _ _).alloc _⟩

theorem tracked_any (w : World) (st : Int) (back : Bool) (fl : Nat) (hf : fl < 256) : Calls Tryd.prog 21 #[.int .i64 st, sv back fl] w (Told (.int .i64 (trackedI st back fl)) w) := by
  cases h4 : hasB fl 4
  · by_cases s7 : st = 7
    · subst s7
      rw [show trackedI 7 back fl = 7 from by simp [trackedI, h4]]
      have A := new_1 w #[.bool back, .int .u8 fl] 27 0 (.bool back) rfl
      have D := new_1 w #[.bool back, .int .u8 fl] 27 1 (.int .u8 fl) rfl
      have U : Upto NoS w (w.alloc (.cells #[.bool back, .int .u8 fl] 27)) := (Upto.refl _ _).alloc _
      go_enter Tryd.func21, Tryd.ntmps21
      go_wp2_with (first | (go_at_call 23; refine (has_to _ _ _ _ _ hf (by omega) (by assumption)).mono ?_; rintro e w' ⟨rfl, hu'⟩; replace A := hu'.keep A id; replace D := hu'.keep D id; replace U := U.trans hu'))
      go_ret
      exact ⟨rfl, U⟩
    · have k7 : (st == 7) = false := beq_eq_false_iff_ne.2 s7
      cases h1 : hasB fl 1
      · rcases (by omega : st = 1 ∨ st = 2 ∨ (st ≠ 1 ∧ st ≠ 2)) with rfl | rfl | ⟨n1, n2⟩
        · clear k7 s7
          cases back
          · rw [show trackedI 1 false fl = 1 from by simp [trackedI, h4, h1]]
            have A := new_1 w #[.bool false, .int .u8 fl] 27 0 (.bool false) rfl
            have D := new_1 w #[.bool false, .int .u8 fl] 27 1 (.int .u8 fl) rfl
            have U : Upto NoS w (w.alloc (.cells #[.bool false, .int .u8 fl] 27)) := (Upto.refl _ _).alloc _
            go_enter Tryd.func21, Tryd.ntmps21
            go_wp2_with (first | (go_at_call 23; refine (has_to _ _ _ _ _ hf (by omega) (by assumption)).mono ?_; rintro e w' ⟨rfl, hu'⟩; replace A := hu'.keep A id; replace D := hu'.keep D id; replace U := U.trans hu'))
            go_ret
            exact ⟨rfl, U⟩
          · cases h2 : hasB fl 2
            · rw [show trackedI 1 true fl = 1 from by simp [trackedI, h4, h1, h2]]
              have A := new_1 w #[.bool true, .int .u8 fl] 27 0 (.bool true) rfl
              have D := new_1 w #[.bool true, .int .u8 fl] 27 1 (.int .u8 fl) rfl
              have U : Upto NoS w (w.alloc (.cells #[.bool true, .int .u8 fl] 27)) := (Upto.refl _ _).alloc _
              go_enter Tryd.func21, Tryd.ntmps21
              go_wp2_with (first | (go_at_call 23; refine (has_to _ _ _ _ _ hf (by omega) (by assumption)).mono ?_; rintro e w' ⟨rfl, hu'⟩; replace A := hu'.keep A id; replace D := hu'.keep D id; replace U := U.trans hu'))
              go_ret
              exact ⟨rfl, U⟩
            · rw [show trackedI 1 true fl = 2 from by simp [trackedI, h4, h1, h2]]
              have A := new_1 w #[.bool true, .int .u8 fl] 27 0 (.bool true) rfl
              have D := new_1 w #[.bool true, .int .u8 fl] 27 1 (.int .u8 fl) rfl
              have U : Upto NoS w (w.alloc (.cells #[.bool true, .int .u8 fl] 27)) := (Upto.refl _ _).alloc _
              go_enter Tryd.func21, Tryd.ntmps21
              go_wp2_with (first | (go_at_call 23; refine (has_to _ _ _ _ _ hf (by omega) (by assumption)).mono ?_; rintro e w' ⟨rfl, hu'⟩; replace A := hu'.keep A id; replace D := hu'.keep D id; replace U := U.trans hu'))
              go_ret
              exact ⟨rfl, U⟩
        · clear k7 s7
          cases back
          · cases h16 : hasB fl 16
            · rw [show trackedI 2 false fl = 2 from by simp [trackedI, h4, h1, h16]]
              have A := new_1 w #[.bool false, .int .u8 fl] 27 0 (.bool false) rfl
              have D := new_1 w #[.bool false, .int .u8 fl] 27 1 (.int .u8 fl) rfl
              have U : Upto NoS w (w.alloc (.cells #[.bool false, .int .u8 fl] 27)) := (Upto.refl _ _).alloc _
              go_enter Tryd.func21, Tryd.ntmps21
              go_wp2_with (first | (go_at_call 23; refine (has_to _ _ _ _ _ hf (by omega) (by assumption)).mono ?_; rintro e w' ⟨rfl, hu'⟩; replace A := hu'.keep A id; replace D := hu'.keep D id; replace U := U.trans hu'))
              go_ret
              exact ⟨rfl, U⟩
            · cases h2 : hasB fl 2
              · rw [show trackedI 2 false fl = 3 from by simp [trackedI, h4, h1, h16, h2]]
                have A := new_1 w #[.bool false, .int .u8 fl] 27 0 (.bool false) rfl
                have D := new_1 w #[.bool false, .int .u8 fl] 27 1 (.int .u8 fl) rfl
                have U : Upto NoS w (w.alloc (.cells #[.bool false, .int .u8 fl] 27)) := (Upto.refl _ _).alloc _
                go_enter Tryd.func21, Tryd.ntmps21
                go_wp2_with (first | (go_at_call 23; refine (has_to _ _ _ _ _ hf (by omega) (by assumption)).mono ?_; rintro e w' ⟨rfl, hu'⟩; replace A := hu'.keep A id; replace D := hu'.keep D id; replace U := U.trans hu'))
                go_ret
                exact ⟨rfl, U⟩
              · rw [show trackedI 2 false fl = 2 from by simp [trackedI, h4, h1, h16, h2]]
                have A := new_1 w #[.bool false, .int .u8 fl] 27 0 (.bool false) rfl
                have D := new_1 w #[.bool false, .int .u8 fl] 27 1 (.int .u8 fl) rfl
                have U : Upto NoS w (w.alloc (.cells #[.bool false, .int .u8 fl] 27)) := (Upto.refl _ _).alloc _
                go_enter Tryd.func21, Tryd.ntmps21
                go_wp2_with (first | (go_at_call 23; refine (has_to _ _ _ _ _ hf (by omega) (by assumption)).mono ?_; rintro e w' ⟨rfl, hu'⟩; replace A := hu'.keep A id; replace D := hu'.keep D id; replace U := U.trans hu'))
                go_ret
                exact ⟨rfl, U⟩
          · rw [show trackedI 2 true fl = 2 from by simp [trackedI, h4, h1]]
            have A := new_1 w #[.bool true, .int .u8 fl] 27 0 (.bool true) rfl
            have D := new_1 w #[.bool true, .int .u8 fl] 27 1 (.int .u8 fl) rfl
            have U : Upto NoS w (w.alloc (.cells #[.bool true, .int .u8 fl] 27)) := (Upto.refl _ _).alloc _
            go_enter Tryd.func21, Tryd.ntmps21
            go_wp2_with (first | (go_at_call 23; refine (has_to _ _ _ _ _ hf (by omega) (by assumption)).mono ?_; rintro e w' ⟨rfl, hu'⟩; replace A := hu'.keep A id; replace D := hu'.keep D id; replace U := U.trans hu'))
            go_ret
            exact ⟨rfl, U⟩
        · have k1 : (st == 1) = false := beq_eq_false_iff_ne.2 n1
          have k2 : (st == 2) = false := beq_eq_false_iff_ne.2 n2
          rw [show trackedI st back fl = st from by simp [trackedI, h4, h1, s7, n1, n2]]
          have A := new_1 w #[.bool back, .int .u8 fl] 27 0 (.bool back) rfl
          have D := new_1 w #[.bool back, .int .u8 fl] 27 1 (.int .u8 fl) rfl
          have U : Upto NoS w (w.alloc (.cells #[.bool back, .int .u8 fl] 27)) := (Upto.refl _ _).alloc _
          go_enter Tryd.func21, Tryd.ntmps21
          go_wp2_with (first | (go_at_call 23; refine (has_to _ _ _ _ _ hf (by omega) (by assumption)).mono ?_; rintro e w' ⟨rfl, hu'⟩; replace A := hu'.keep A id; replace D := hu'.keep D id; replace U := U.trans hu'))
          go_ret
          exact ⟨rfl, U⟩
      · rw [show trackedI st back fl = endsI st back from by simp [trackedI, h4, h1, s7]]
        have A := new_1 w #[.bool back, .int .u8 fl] 27 0 (.bool back) rfl
        have D := new_1 w #[.bool back, .int .u8 fl] 27 1 (.int .u8 fl) rfl
        have U : Upto NoS w (w.alloc (.cells #[.bool back, .int .u8 fl] 27)) := (Upto.refl _ _).alloc _
        go_enter Tryd.func21, Tryd.ntmps21
        go_wp2_with (first | (go_at_call 23; refine (has_to _ _ _ _ _ hf (by omega) (by assumption)).mono ?_; rintro e w' ⟨rfl, hu'⟩; replace A := hu'.keep A id; replace D := hu'.keep D id; replace U := U.trans hu') | (go_at_call 24; refine (ends_any _ _ _ _).mono ?_; rintro e w' ⟨rfl, hu'⟩; replace U := U.trans hu'))
        go_ret
        exact ⟨rfl, U⟩
  · rw [show trackedI st back fl = 7 from by simp [trackedI, h4]]
    have A := new_1 w #[.bool back, .int .u8 fl] 27 0 (.bool back) rfl
    have D := new_1 w #[.bool back, .int .u8 fl] 27 1 (.int .u8 fl) rfl
    have U : Upto NoS w (w.alloc (.cells #[.bool back, .int .u8 fl] 27)) := (Upto.refl _ _).alloc _
    go_enter Tryd.func21, Tryd.ntmps21
    go_wp2_with (first | (go_at_call 23; refine (has_to _ _ _ _ _ hf (by omega) (by assumption)).mono ?_; rintro e w' ⟨rfl, hu'⟩; replace A := hu'.keep A id; replace D := hu'.keep D id; replace U := U.trans hu'))
    go_ret
    exact ⟨rfl, U⟩

theorem Next_any (w : World) (f st : Int) (back : Bool) (fl : Nat) (hT : Tab w) (hf : fl < 256) : Calls Tryd.prog 15 #[.int .i64 f, .int .i64 st, .bool back, .int .u8 fl] w (Told (.int .i64 (nextI f st back fl)) w) := by
  have T := hT.alloc (.cells #[.bool back, .int .u8 fl] 27)
  have A := new_1 w #[.bool back, .int .u8 fl] 27 0 (.bool back) rfl
  have D := new_1 w #[.bool back, .int .u8 fl] 27 1 (.int .u8 fl) rfl
  have U : Upto NoS w (w.alloc (.cells #[.bool back, .int .u8 fl] 27)) := (Upto.refl _ _).alloc _
  clear hT
  cases hm : mayB f st
  · rw [show nextI f st back fl = 0 from by simp [nextI, hm]]
    go_enter Tryd.func15, Tryd.ntmps15
    go_wp2_with (go_at_call 10; refine (May_to _ _ _ _ T hm).mono ?_; rintro e w' ⟨rfl, hu'⟩; replace A := hu'.keep A id; replace D := hu'.keep D id; replace U := U.trans hu')
    go_ret
    exact ⟨rfl, U⟩
  · by_cases h3 : f = 3
    · subst h3
      rw [show nextI 3 st back fl = trackedI st back fl from by simp [nextI, hm]]
      go_enter Tryd.func15, Tryd.ntmps15
      go_wp2_with (first
        | (go_at_call 10; refine (May_to _ _ _ _ T hm).mono ?_; rintro e w' ⟨rfl, hu'⟩; replace A := hu'.keep A id; replace D := hu'.keep D id; replace U := U.trans hu')
        | (go_at_call 21; refine (tracked_any _ _ _ _ hf).mono ?_; rintro e w' ⟨rfl, hu'⟩; replace U := U.trans hu'))
      go_ret
      exact ⟨rfl, U⟩
    · have k3 : (f == 3) = false := beq_eq_false_iff_ne.2 h3
      cases back
      · rw [show nextI f st false fl = st from by simp [nextI, hm, h3]]
        go_enter Tryd.func15, Tryd.ntmps15
        go_wp2_with (go_at_call 10; refine (May_to _ _ _ _ T hm).mono ?_; rintro e w' ⟨rfl, hu'⟩; replace A := hu'.keep A id; replace D := hu'.keep D id; replace U := U.trans hu')
        go_ret
        exact ⟨rfl, U⟩
      · rw [show nextI f st true fl = 2 from by simp [nextI, hm, h3]]
        go_enter Tryd.func15, Tryd.ntmps15
        go_wp2_with (go_at_call 10; refine (May_to _ _ _ _ T hm).mono ?_; rintro e w' ⟨rfl, hu'⟩; replace A := hu'.keep A id; replace D := hu'.keep D id; replace U := U.trans hu')
        go_ret
        exact ⟨rfl, U⟩

theorem First_any (w : World) (f : Int) (fl : Nat) (hT : Tab w) (_hf : fl < 256) : Calls Tryd.prog 17 #[.int .i64 f, .int .u8 fl] w (Told (okV (okF f fl)) w) := by
  rcases (by omega : f = 1 ∨ f = 2 ∨ f = 3 ∨ (f ≠ 1 ∧ f ≠ 2 ∧ f ≠ 3)) with rfl | rfl | rfl | ⟨g1, g2, g3⟩
  · go_enter Tryd.func17, Tryd.ntmps17
    go_wp2_with (go_at_call 10; refine (May_to _ _ _ true hT rfl).mono ?_; rintro e w' ⟨rfl, hu'⟩)
    go_ret2
    exact ⟨rfl, hu'⟩
  · go_enter Tryd.func17, Tryd.ntmps17
    go_wp2_with (go_at_call 10; refine (May_to _ _ _ true hT rfl).mono ?_; rintro e w' ⟨rfl, hu'⟩)
    go_ret2
    exact ⟨rfl, hu'⟩
  · cases hs : synB fl
    · rw [show okF 3 fl = false from by simp [okF, hs]]
      have hb : (bits .and .u8 fl 23 == 2) = false := hs
      go_enter Tryd.func17, Tryd.ntmps17
      go_wp2_with (go_at_call 10; refine (May_to _ _ _ true hT rfl).mono ?_; rintro e w' ⟨rfl, hu'⟩)
      go_ret2
      exact ⟨rfl, hu'⟩
    · rw [show okF 3 fl = true from by simp [okF, hs]]
      have hb : bits .and .u8 fl 23 = 2 := by simpa [synB] using hs
      go_enter Tryd.func17, Tryd.ntmps17
      go_wp2_with (go_at_call 10; refine (May_to _ _ _ true hT rfl).mono ?_; rintro e w' ⟨rfl, hu'⟩)
      go_ret2
      exact ⟨rfl, hu'⟩
  · have hm : mayB f 1 = false := by simp [mayB, timeoutI, g1, g2, g3]
    rw [show okF f fl = false from by simp [okF, g1, g2, g3]]
    go_enter Tryd.func17, Tryd.ntmps17
    go_wp2_with (go_at_call 10; refine (May_to _ _ _ false hT hm).mono ?_; rintro e w' ⟨rfl, hu'⟩)
    go_ret2
    exact ⟨rfl, hu'⟩

theorem Early_any (w : World) (f st : Int) (hT : Tab w) : Calls Tryd.prog 11 #[.int .i64 f, .int .i64 st] w (Told (.bool (earlyB f st)) w) := by
  cases hm : mayB f st
  · rw [show earlyB f st = false from by simp [earlyB, hm]]
    go_enter Tryd.func11, Tryd.ntmps11
    go_wp2_with (go_at_call 10; refine (May_to _ _ _ _ hT hm).mono ?_; rintro e w' ⟨rfl, hu'⟩)
    go_ret
    exact ⟨rfl, hu'⟩
  · by_cases h3 : f = 3
    · subst h3
      rw [show earlyB 3 st = (st != 3) from by simp [earlyB, hm]]
      go_enter Tryd.func11, Tryd.ntmps11
      go_wp2_with (go_at_call 10; refine (May_to _ _ _ _ hT hm).mono ?_; rintro e w' ⟨rfl, hu'⟩)
      go_ret
      exact ⟨rfl, hu'⟩
    · have k3 : (f == 3) = false := beq_eq_false_iff_ne.2 h3
      rw [show earlyB f st = (st == 1) from by simp [earlyB, hm, h3]]
      go_enter Tryd.func11, Tryd.ntmps11
      go_wp2_with (go_at_call 10; refine (May_to _ _ _ _ hT hm).mono ?_; rintro e w' ⟨rfl, hu'⟩)
      go_ret
      exact ⟨rfl, hu'⟩

theorem Flow_any (w : World) (x : Nat) (g : FuncId) (hg : g = 19 ∨ g = 20) : Calls Tryd.prog g #[.int .u8 x] w (Told (.int .i64 (flowI x)) w) := by
  rcases (by omega : x = 1 ∨ x = 6 ∨ x = 17 ∨ (x ≠ 1 ∧ x ≠ 6 ∧ x ≠ 17)) with rfl | rfl | rfl | ⟨g1, g2, g3⟩
  rotate_right
  · have k1 : ((x : Int) == 1) = false := beq_eq_false_iff_ne.2 (by omega)
    have k2 : ((x : Int) == 6) = false := beq_eq_false_iff_ne.2 (by omega)
    have k3 : ((x : Int) == 17) = false := beq_eq_false_iff_ne.2 (by omega)
    rw [show flowI x = 0 from by simp [flowI, g1, g2, g3]]
    rcases hg with rfl | rfl
    · go_enter Tryd.func19, Tryd.ntmps19
      go_wp2
      go_ret
      exact ⟨rfl, Upto.refl _ _⟩
    · go_enter Tryd.func20, Tryd.ntmps20
      go_wp2
      go_ret
      exact ⟨rfl, Upto.refl _ _⟩
  all_goals
    rcases hg with rfl | rfl
    · go_enter Tryd.func19, Tryd.ntmps19
      go_wp2
      go_ret
      exact ⟨rfl, Upto.refl _ _⟩
    · go_enter Tryd.func20, Tryd.ntmps20
      go_wp2
      go_ret
      exact ⟨rfl, Upto.refl _ _⟩
end Go.Proofs.YtmgipmpnejphoaaDoor
