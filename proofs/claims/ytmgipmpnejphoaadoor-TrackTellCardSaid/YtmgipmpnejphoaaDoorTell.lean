/- TrackTell, walked. -/
import Derived.Test.YtmgipmpnejphoaaDoorStood
import Derived.Deep.CutBlock
namespace Go.Proofs.YtmgipmpnejphoaaDoor
open Go Go.RowKit Go.Deep

theorem drew_cell {w : World} {a : Addr} {v : Option Value} (h : w.cell? a = v) : w.drew.cell? a = v := h
theorem drew_tab {w : World} (h : Tab w) : Tab w.drew := h
theorem Timeout_ref_to (w : World) (f s t : Int) (h : timeoutI f s = t) : Calls Tryd.prog 13 #[.int .i64 f, .int .i64 s] w (Told (.int .i64 t) w) := h ▸ Timeout_ref w f s
theorem Early_ref_to (w : World) (f s : Int) (q : Bool) (h : earlyB f s = q) : Calls Tryd.prog 14 #[.int .i64 f, .int .i64 s] w (Told (.bool q) w) := h ▸ Early_ref w f s
theorem Next_to (w : World) (f st : Int) (back : Bool) (fl : Nat) (n : Int) (hT : Tab w) (hf : fl < 256) (h : nextI f st back fl = n) : Calls Tryd.prog 15 #[.int .i64 f, .int .i64 st, .bool back, .int .u8 fl] w (Told (.int .i64 n) w) := h ▸ Next_any w f st back fl hT hf
theorem Next_ref_to (w : World) (f st : Int) (back : Bool) (fl : Nat) (n : Int) (hf : fl < 256) (h : nextI f st back fl = n) : Calls Tryd.prog 16 #[.int .i64 f, .int .i64 st, .bool back, .int .u8 fl] w (Told (.int .i64 n) w) := h ▸ Next_ref w f st back fl hf
theorem First_to (w : World) (f : Int) (fl : Nat) (q : Bool) (hT : Tab w) (hf : fl < 256) (h : okF f fl = q) : Calls Tryd.prog 17 #[.int .i64 f, .int .u8 fl] w (Told (okV q) w) := h ▸ First_any w f fl hT hf
theorem First_ref_to (w : World) (f : Int) (fl : Nat) (q : Bool) (hf : fl < 256) (h : okF f fl = q) : Calls Tryd.prog 18 #[.int .i64 f, .int .u8 fl] w (Told (okV q) w) := h ▸ First_ref w f fl hf
theorem Flow_to (w : World) (x : Nat) (g : FuncId) (n : Int) (hg : g = 19 ∨ g = 20) (h : flowI x = n) : Calls Tryd.prog g #[.int .u8 x] w (Told (.int .i64 n) w) := h ▸ Flow_any w x g hg

set_option maxRecDepth 100000 in
set_option maxHeartbeats 1000000 in
theorem tell_walk (w : World) (flow st0 : Int) (back : Bool) (fl : Nat) (hT : Tab w) (hf : fl < 256) :
    Calls Tryd.prog 6 #[.int .i64 flow, .int .i64 st0, sv back fl] w (Told (.bool true) w) := by
  go_enter Tryd.func6, Tryd.ntmps6
  go_wp2_with fail
  have A := new_1 w #[.bool back, .int .u8 fl] 27 0 (.bool back) rfl
  have D := new_1 w #[.bool back, .int .u8 fl] 27 1 (.int .u8 fl) rfl
  have U : Upto NoS w (w.alloc (.cells #[.bool back, .int .u8 fl] 27)) := (Upto.refl _ _).alloc _
  have T := hT.alloc (.cells #[.bool back, .int .u8 fl] 27)
  clear hT
  generalize w.alloc (.cells #[.bool back, .int .u8 fl] 27) = W1 at A D U T ⊢
  generalize w.heap.size = p at A D ⊢
  go_loopw [7] (fun i wr => ∃ f : Int, -1 ≤ f ∧ f ≤ 6 ∧ i = .int .i64 f ∧ wr.cell? ⟨p, 0, none⟩ = some (.bool back) ∧ wr.cell? ⟨p, 1, none⟩ = some (.int .u8 fl) ∧ Tab wr ∧ Upto NoS w wr)
    (fun i _ => (6 - intOf i).toNat)
  case atStart => exact ⟨-1, by omega, by omega, rfl, A, D, T, U⟩
  case round =>
    clear A D U T
    obtain ⟨f, hf1, hf2, rfl, A, D, T, U⟩ := hrel
    by_cases hlf : f < 6
    · go_wp2_with fail
      go_loopw [8] (fun i wr => ∃ k : Int, -1 ≤ k ∧ k ≤ 10 ∧ i = .int .i64 k ∧ wr.cell? ⟨p, 0, none⟩ = some (.bool back) ∧ wr.cell? ⟨p, 1, none⟩ = some (.int .u8 fl) ∧ Tab wr ∧ Upto NoS w wr)
        (fun i _ => (10 - intOf i).toNat)
      case atStart => exact ⟨-1, by omega, by omega, rfl, A, D, T, U⟩
      case round =>
        clear A D U T
        obtain ⟨k, hk1, hk2, rfl, A, D, T, U⟩ := hrel
        by_cases hlk : k < 10
        · go_upto_if 27 with (fail)
          go_cut [9] (fun v wc => ∃ a : Int, v = .int .i64 a ∧ wc.cell? ⟨p, 0, none⟩ = some (.bool back) ∧ wc.cell? ⟨p, 1, none⟩ = some (.int .u8 fl) ∧ Tab wc ∧ Upto NoS w wc)
          case first =>
            by_cases h5 : f = 5
            · subst h5
              go_wp2
              go_meet
              case rel => exact ⟨_, rfl, A, D, T, U⟩
            · have h5' : (f == 5) = false := beq_eq_false_iff_ne.2 h5
              go_wp2
              go_meet
              case rel => exact ⟨_, rfl, A, D, T, U⟩
          case rest =>
            clear A D U T
            obtain ⟨a, rfl, A, D, T, U⟩ := hcut
            go_upto_if 30 with (fail)
            go_cut [10] (fun v wd => ∃ b : Int, v = .int .i64 b ∧ wd.cell? ⟨p, 0, none⟩ = some (.bool back) ∧ wd.cell? ⟨p, 1, none⟩ = some (.int .u8 fl) ∧ Tab wd ∧ Upto NoS w wd)
            case first =>
              by_cases h9 : k = 9
              · subst h9
                go_wp2
                go_meet
                case rel => exact ⟨_, rfl, A, D, T, U⟩
              · have h9' : (k == 9) = false := beq_eq_false_iff_ne.2 h9
                go_wp2
                go_meet
                case rel => exact ⟨_, rfl, A, D, T, U⟩
            case rest =>
              clear A D U T
              obtain ⟨b, rfl, A, D, T, U⟩ := hcut
              generalize ht : timeoutI a b = t
              have hne : (t != t) = false := by simp
              generalize hn : nextI a b back fl = n
              have hnn : (n != n) = false := by simp
              have hm : mayB a b = decide (0 < t) := by rw [← ht]; rfl
              replace A := drew_cell A
              replace D := drew_cell D
              replace T := drew_tab T
              replace U := U.drew
              have HT := Lib.hid ht
              have HN := Lib.hid hn
              have HM := Lib.hid hm
              clear ht hn hm
              generalize he : earlyB a b = ev
              generalize ho : okF a fl = ov
              generalize hd : decide (0 < t) = pq at HM
              have hpp : (pq != pq) = false := by simp
              have hee : (ev != ev) = false := by simp
              have hoo : (ov != ov) = false := by simp
              have HE := Lib.hid he
              have HO := Lib.hid ho
              clear he ho
              go_wp2_with fail
              go_region_held3 (fun w' => (w'.cell? ⟨p, 0, none⟩ = some (.bool back) ∧ w'.cell? ⟨p, 1, none⟩ = some (.int .u8 fl)) ∧ Tab w')
                (exact ⟨⟨A, D⟩, T⟩)
                (first
                  | (go_at_call 12; refine (Timeout_to _ _ _ _ T HT.out).mono ?_; rintro e w' ⟨rfl, hu'⟩; replace T := T.upto hu'; replace A := hu'.keep A id; replace D := hu'.keep D id; replace U := U.trans hu')
                  | (go_at_call 13; refine (Timeout_ref_to _ _ _ _ HT.out).mono ?_; rintro e w' ⟨rfl, hu'⟩; replace T := T.upto hu'; replace A := hu'.keep A id; replace D := hu'.keep D id; replace U := U.trans hu')
                  | (go_at_call 10; refine (May_to _ _ _ _ T HM.out).mono ?_; rintro e w' ⟨rfl, hu'⟩; replace T := T.upto hu'; replace A := hu'.keep A id; replace D := hu'.keep D id; replace U := U.trans hu')
                  | (go_at_call 11; refine (Early_to _ _ _ _ T HE.out).mono ?_; rintro e w' ⟨rfl, hu'⟩; replace T := T.upto hu'; replace A := hu'.keep A id; replace D := hu'.keep D id; replace U := U.trans hu')
                  | (go_at_call 14; refine (Early_ref_to _ _ _ _ HE.out).mono ?_; rintro e w' ⟨rfl, hu'⟩; replace T := T.upto hu'; replace A := hu'.keep A id; replace D := hu'.keep D id; replace U := U.trans hu')
                  | (go_at_call 15; refine (Next_to _ _ _ _ _ _ T hf HN.out).mono ?_; rintro e w' ⟨rfl, hu'⟩; replace T := T.upto hu'; replace A := hu'.keep A id; replace D := hu'.keep D id; replace U := U.trans hu')
                  | (go_at_call 16; refine (Next_ref_to _ _ _ _ _ _ hf HN.out).mono ?_; rintro e w' ⟨rfl, hu'⟩; replace T := T.upto hu'; replace A := hu'.keep A id; replace D := hu'.keep D id; replace U := U.trans hu'))
              go_wp2_with (first
                | (go_at_call 17; refine (First_to _ _ _ _ T hf HO.out).mono ?_; rintro e w' ⟨rfl, hu'⟩; replace T := T.upto hu'; replace A := hu'.keep A id; replace D := hu'.keep D id; replace U := U.trans hu')
                | (go_at_call 18; refine (First_ref_to _ _ _ _ hf HO.out).mono ?_; rintro e w' ⟨rfl, hu'⟩; replace T := T.upto hu'; replace A := hu'.keep A id; replace D := hu'.keep D id; replace U := U.trans hu'))
              go_roundw
              case rel => exact ⟨k + 1, by omega, by omega, by go_num, A, D, T, U⟩
              case measure => simp [intOf]; omega
        · obtain rfl : k = 10 := by omega
          go_wp2
          go_roundw
          case rel => exact ⟨f + 1, by omega, by omega, by go_num, A, D, T, U⟩
          case measure => simp [intOf]; omega
    · obtain rfl : f = 6 := by omega
      clear A D
      go_wp2_with fail
      go_loopw [15] (fun i wr => ∃ k : Nat, k ≤ 256 ∧ i = .int .i64 k ∧ Tab wr ∧ Upto NoS w wr)
        (fun i _ => 256 - (intOf i).toNat)
      case atStart => exact ⟨0, by omega, rfl, T, U⟩
      case round =>
        clear T U
        obtain ⟨k, hk, rfl, T, U⟩ := hrel
        by_cases hlk : k < 256
        · generalize hn : flowI k = n
          have hnn : (n != n) = false := by simp
          have HN := Lib.hid hn
          clear hn
          go_wp2_with (first
            | (go_at_call 19; refine (Flow_to _ _ 19 _ (.inl rfl) HN.out).mono ?_; rintro e w' ⟨rfl, hu'⟩; replace T := T.upto hu'; replace U := U.trans hu')
            | (go_at_call 20; refine (Flow_to _ _ 20 _ (.inr rfl) HN.out).mono ?_; rintro e w' ⟨rfl, hu'⟩; replace T := T.upto hu'; replace U := U.trans hu'))
          go_roundw
          case rel => exact ⟨k + 1, by omega, by go_num, T, U⟩
          case measure => simp [intOf]; omega
        · obtain rfl : k = 256 := by omega
          go_wp2_with (go_at_call 7; refine (stood_any _ T).mono ?_; rintro e w' ⟨rfl, hu'⟩)
          go_ret
          exact ⟨rfl, U.trans hu'⟩
end Go.Proofs.YtmgipmpnejphoaaDoor
