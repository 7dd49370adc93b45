/- TrackBack, walked. -/
import Derived.Test.YtmgipmpnejphoaaDoorStood
namespace Go.Proofs.YtmgipmpnejphoaaDoor
open Go Go.RowKit Go.Deep

/-- Was the other one heard in the first k steps? -/
def wantI (z : Nat → Bool × Nat) : Nat → Int
  | 0 => 1
  | k + 1 => if (z k).1 then 2 else wantI z k
theorem wantI_two (z : Nat → Bool × Nat) (k : Nat) : wantI z k = 1 ∨ wantI z k = 2 := by
  induction k with
  | zero => exact .inl rfl
  | succ k ih => unfold wantI; split <;> first | exact .inr rfl | exact ih
theorem rs_want (f : Int) (hf : f = 1 ∨ f = 2) (z : Nat → Bool × Nat) (h0 : (z 0).1 = false) (k : Nat) : rs f z k = wantI z (k + 1) := by
  induction k with
  | zero => simp [rs, wantI, h0]
  | succ k ih =>
    rw [rs, ih, show wantI z (k + 1 + 1) = if (z (k + 1)).1 then 2 else wantI z (k + 1) from rfl]
    rcases wantI_two z (k + 1) with h | h <;> rw [h] <;> rcases hf with rfl | rfl <;> cases (z (k + 1)).1 <;> rfl
theorem run_want (f : Int) (hf : f = 1 ∨ f = 2) (z : Nat → Bool × Nat) (len : Nat) (hl : 0 < len) (h0 : (z 0).1 = false) : runV f z len = .tuple #[.int .i64 (wantI z len), .bool true] := by
  have hok : runOk f z len = true := by rcases hf with rfl | rfl <;> simp [runOk, hl, h0, okF]
  have : rs f z (len - 1) = wantI z len := by rw [rs_want f hf z h0, show len - 1 + 1 = len by omega]
  simp [runV, runSt, hok, this]
theorem run_back (f : Int) (z : Nat → Bool × Nat) (len : Nat) (h0 : (z 0).1 = true) : runV f z len = .tuple #[.int .i64 0, .bool false] := by
  simp [runV, runSt, runOk, h0]

theorem back_walk (w : World) (a : Option Addr) (len cap : Nat) (z : Nat → Bool × Nat) (query : Bool) (hT : Tab w) (hz : StepsAt w a len z) (hl : len ≤ cap) (hm : cap ≤ 9223372036854775807) :
    Calls Tryd.prog 5 #[.slice a len cap, .bool query] w (Told (.bool true) w) := by
  by_cases h60 : 60 < len
  · go_enter Tryd.func5, Tryd.ntmps5
    go_wp2_with (go_at_call 7; refine (stood_any _ hT).mono ?_; rintro e w1 ⟨rfl, hu⟩)
    go_ret
    exact ⟨rfl, hu⟩
  · by_cases h0 : len = 0
    · subst h0
      go_enter Tryd.func5, Tryd.ntmps5
      go_wp2_with (go_at_call 7; refine (stood_any _ hT).mono ?_; rintro e w1 ⟨rfl, hu⟩)
      go_ret
      exact ⟨rfl, hu⟩
    · have hk0 : ((len : Int) == 0) = false := beq_eq_false_iff_ne.2 (by omega)
      have hpos : 0 < len := by omega
      obtain ⟨_, b, off, rfl, hb, x0, _⟩ := hz 0 hpos
      rw [Nat.zero_mul, Nat.add_zero] at x0
      cases query
      · go_enter Tryd.func5, Tryd.ntmps5
        go_wp2_with fail
        go_loopw [6, 7] (fun v i wr => ∃ k : Nat, k ≤ len ∧ i = .int .i64 k ∧ v = .int .i64 (wantI z k) ∧ wr = w)
          (fun _ i _ => len - (intOf i).toNat)
        case atStart => exact ⟨0, by omega, rfl, rfl, rfl⟩
        case round =>
          obtain ⟨k, hk, rfl, rfl, rfl⟩ := hrel
          by_cases hlt : k < len
          · obtain ⟨_, b', off', he, hb', d0, _⟩ := hz k hlt
            simp only [Option.some.injEq, Addr.mk.injEq, and_true] at he
            obtain ⟨rfl, rfl⟩ := he
            cases hbk : (z k).1
            · rw [hbk] at d0
              have hw : wantI z (k + 1) = wantI z k := by simp [wantI, hbk]
              clear hbk
              go_wp2
              go_roundw
              case rel => exact ⟨k + 1, by omega, by go_num, by rw [hw], by first | rfl | trivial⟩
              case measure => simp [intOf]; omega
            · rw [hbk] at d0
              have hw : wantI z (k + 1) = 2 := by simp [wantI, hbk]
              clear hbk
              go_wp2
              go_roundw
              case rel => exact ⟨k + 1, by omega, by go_num, by rw [hw], by first | rfl | trivial⟩
              case measure => simp [intOf]; omega
          · obtain rfl : len = k := by omega
            cases hb0 : (z 0).1
            · rw [hb0] at x0
              have hrun := run_want 1 (by omega) z len hpos hb0
              rcases wantI_two z len with hw | hw
              all_goals
                rw [hw] at hrun ⊢
                go_wp2_with (first
                  | (go_at_call 8; refine (Run_to _ _ _ _ _ z _ hrun hT hz hl hm).mono ?_; rintro e w1 ⟨rfl, hu1⟩; have x1 := hu1.keep x0 id; have hT1 := hT.upto hu1)
                  | (go_at_call 11; refine (Early_to _ _ _ _ hT1 rfl).mono ?_; rintro e w2 ⟨rfl, hu2⟩; have hT2 := hT1.upto hu2)
                  | (go_at_call 7; refine (stood_any _ hT2).mono ?_; rintro e w3 ⟨rfl, hu3⟩))
                go_ret
                exact ⟨rfl, (hu1.trans hu2).trans hu3⟩
            · rw [hb0] at x0
              have hrun := run_back 1 z len hb0
              clear hlt
              generalize wantI z len = wn
              go_wp2_with (first
                | (go_at_call 8; refine (Run_to _ _ _ _ _ z _ hrun hT hz hl hm).mono ?_; rintro e w1 ⟨rfl, hu1⟩; have x1 := hu1.keep x0 id; have hT1 := hT.upto hu1)
                | (go_at_call 7; refine (stood_any _ hT1).mono ?_; rintro e w3 ⟨rfl, hu3⟩))
              go_ret
              exact ⟨rfl, hu1.trans hu3⟩
      · go_enter Tryd.func5, Tryd.ntmps5
        go_wp2_with fail
        go_loopw [6, 7] (fun v i wr => ∃ k : Nat, k ≤ len ∧ i = .int .i64 k ∧ v = .int .i64 (wantI z k) ∧ wr = w)
          (fun _ i _ => len - (intOf i).toNat)
        case atStart => exact ⟨0, by omega, rfl, rfl, rfl⟩
        case round =>
          obtain ⟨k, hk, rfl, rfl, rfl⟩ := hrel
          by_cases hlt : k < len
          · obtain ⟨_, b', off', he, hb', d0, _⟩ := hz k hlt
            simp only [Option.some.injEq, Addr.mk.injEq, and_true] at he
            obtain ⟨rfl, rfl⟩ := he
            cases hbk : (z k).1
            · rw [hbk] at d0
              have hw : wantI z (k + 1) = wantI z k := by simp [wantI, hbk]
              clear hbk
              go_wp2
              go_roundw
              case rel => exact ⟨k + 1, by omega, by go_num, by rw [hw], by first | rfl | trivial⟩
              case measure => simp [intOf]; omega
            · rw [hbk] at d0
              have hw : wantI z (k + 1) = 2 := by simp [wantI, hbk]
              clear hbk
              go_wp2
              go_roundw
              case rel => exact ⟨k + 1, by omega, by go_num, by rw [hw], by first | rfl | trivial⟩
              case measure => simp [intOf]; omega
          · obtain rfl : len = k := by omega
            cases hb0 : (z 0).1
            · rw [hb0] at x0
              have hrun := run_want 2 (by omega) z len hpos hb0
              rcases wantI_two z len with hw | hw
              all_goals
                rw [hw] at hrun ⊢
                go_wp2_with (first
                  | (go_at_call 8; refine (Run_to _ _ _ _ _ z _ hrun hT hz hl hm).mono ?_; rintro e w1 ⟨rfl, hu1⟩; have x1 := hu1.keep x0 id; have hT1 := hT.upto hu1)
                  | (go_at_call 11; refine (Early_to _ _ _ _ hT1 rfl).mono ?_; rintro e w2 ⟨rfl, hu2⟩; have hT2 := hT1.upto hu2)
                  | (go_at_call 7; refine (stood_any _ hT2).mono ?_; rintro e w3 ⟨rfl, hu3⟩))
                go_ret
                exact ⟨rfl, (hu1.trans hu2).trans hu3⟩
            · rw [hb0] at x0
              have hrun := run_back 2 z len hb0
              clear hlt
              generalize wantI z len = wn
              go_wp2_with (first
                | (go_at_call 8; refine (Run_to _ _ _ _ _ z _ hrun hT hz hl hm).mono ?_; rintro e w1 ⟨rfl, hu1⟩; have x1 := hu1.keep x0 id; have hT1 := hT.upto hu1)
                | (go_at_call 7; refine (stood_any _ hT1).mono ?_; rintro e w3 ⟨rfl, hu3⟩))
              go_ret
              exact ⟨rfl, hu1.trans hu3⟩
end Go.Proofs.YtmgipmpnejphoaaDoor
