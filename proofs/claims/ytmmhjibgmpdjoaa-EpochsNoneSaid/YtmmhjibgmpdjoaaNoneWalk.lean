/- What epochs that are none answer; and EpochsNone, walked. -/
import Derived.Test.YtmmhjibgmpdjoaaWalkH
namespace Go.Proofs.Ytmmhjibgmpdjoaa
open Go Go.RowKit Go.Deep Md

/-- The pointer leads to no epochs: nil, or of no workers. -/
def NP (w : World) (v : Option Addr) : Prop := v = none ∨ ∃ b, v = some ⟨b, 0, none⟩ ∧ w.cell? ⟨b, 1, none⟩ = some (.slice none 0 0)
theorem NP.upto {w w' : World} {v : Option Addr} (h : NP w v) (hu : Upto NoS w w') : NP w' v := by
  rcases h with h | ⟨b, hv, hc⟩
  · exact .inl h
  · exact .inr ⟨b, hv, hu.keep hc id⟩
theorem NP.alloc {w : World} {v : Option Addr} (h : NP w v) (o : Obj) : NP (w.alloc o) v := h.upto ((Upto.refl _ _).alloc o)
theorem none_np (w : World) (v : Option Addr) (h : NP w v) : Calls Try.prog 33 #[.pointer v] w fun e w' => e = .returned (.bool true) ∧ w = w' := by
  rcases h with rfl | ⟨b, rfl, hc⟩
  · exact none_nil w
  · exact none_zero w b hc
theorem Now_np (w : World) (v : Option Addr) (h : NP w v) : Calls Try.prog 22 #[.pointer v] w (Told (.int .i64 0) w) := by
  go_enter Try.func22, Try.ntmps22
  go_wp2_with (first
    | (go_at_call 33; refine (none_np _ _ h).mono ?_; rintro e w' ⟨rfl, rfl⟩))
  go_ret
  exact ⟨rfl, Upto.refl _ _⟩
theorem Seen_np (w : World) (v : Option Addr) (i : Int) (h : NP w v) : Calls Try.prog 26 #[.pointer v, .int .i64 i] w (Told (.int .i64 (-1)) w) := by
  go_enter Try.func26, Try.ntmps26
  go_wp2_with (first
    | (go_at_call 33; refine (none_np _ _ h).mono ?_; rintro e w' ⟨rfl, rfl⟩))
  go_ret
  exact ⟨rfl, Upto.refl _ _⟩
theorem In_np (w : World) (v : Option Addr) (i : Int) (h : NP w v) : Calls Try.prog 24 #[.pointer v, .int .i64 i] w (Told (.bool false) w) := by
  go_enter Try.func24, Try.ntmps24
  go_wp2_with (first
    | (go_at_call 26; refine (Seen_np _ _ i h).mono ?_; rintro e w1 ⟨rfl, hu1⟩))
  go_ret
  exact ⟨rfl, hu1⟩
theorem announce_np (w : World) (v : Option Addr) (i : Int) (e : Int) (h : NP w v) : Calls Try.prog 31 #[.pointer v, .int .i64 i, .int .i64 e] w (Told (.int .i64 1) w) := by
  go_enter Try.func31, Try.ntmps31
  go_wp2_with (first
    | (go_at_call 33; refine (none_np _ _ h).mono ?_; rintro e w' ⟨rfl, rfl⟩))
  go_ret
  exact ⟨rfl, Upto.refl _ _⟩
theorem Enter_np (w : World) (v : Option Addr) (i : Int) (h : NP w v) : Calls Try.prog 11 #[.pointer v, .int .i64 i] w (Told (.int .i64 1) w) := by
  go_enter Try.func11, Try.ntmps11
  go_wp2_with (first
    | (go_at_call 22; refine (Now_np _ _ h).mono ?_; rintro e w1 ⟨rfl, hu1⟩)
    | (go_at_call 31; refine (announce_np _ _ i 0 (h.upto hu1)).mono ?_; rintro e w2 ⟨rfl, hu2⟩))
  go_ret
  exact ⟨rfl, hu1.trans hu2⟩
theorem Leave_np (w : World) (v : Option Addr) (i : Int) (h : NP w v) : Calls Try.prog 13 #[.pointer v, .int .i64 i] w (Told (.int .i64 1) w) := by
  go_enter Try.func13, Try.ntmps13
  go_wp2_with (first
    | (go_at_call 31; refine (announce_np _ _ i (-1) h).mono ?_; rintro e w1 ⟨rfl, hu1⟩))
  go_ret
  exact ⟨rfl, hu1⟩
theorem Adv_np (w : World) (v : Option Addr) (h : NP w v) : Calls Try.prog 15 #[.pointer v] w (Told (.bool false) w) := by
  go_enter Try.func15, Try.ntmps15
  go_wp2_with (first
    | (go_at_call 33; refine (none_np _ _ h).mono ?_; rintro e w' ⟨rfl, rfl⟩))
  go_ret
  exact ⟨rfl, Upto.refl _ _⟩
theorem Def_np (w : World) (v : Option Addr) (s : Int) (h : NP w v) : Calls Try.prog 20 #[.pointer v, .int .i64 s] w (Told (.int .i64 1) w) := by
  have hU : Upto NoS w (w.alloc (.cells #[.int .i64 s] 3)) := (Upto.refl _ w).alloc _
  replace h := h.alloc (.cells #[.int .i64 s] 3)
  go_enter Try.func20, Try.ntmps20
  go_wp2_with (first
    | (go_at_call 33; refine (none_np _ _ h).mono ?_; rintro e w' ⟨rfl, rfl⟩))
  go_ret
  exact ⟨rfl, hU⟩
theorem Ripe_np (w : World) (v : Option Addr) (h : NP w v) : Calls Try.prog 18 #[.pointer v] w (Told (.slice none 0 0) w) := by
  go_enter Try.func18, Try.ntmps18
  go_wp2_with (first
    | (go_at_call 33; refine (none_np _ _ h).mono ?_; rintro e w' ⟨rfl, rfl⟩))
  go_ret
  exact ⟨rfl, Upto.refl _ _⟩
theorem Wait_np (w : World) (v : Option Addr) (h : NP w v) : Calls Try.prog 28 #[.pointer v] w (Told (.int .i64 0) w) := by
  go_enter Try.func28, Try.ntmps28
  go_wp2_with (first
    | (go_at_call 33; refine (none_np _ _ h).mono ?_; rintro e w' ⟨rfl, rfl⟩))
  go_ret
  exact ⟨rfl, Upto.refl _ _⟩

set_option maxRecDepth 100000 in
set_option maxHeartbeats 1000000 in
theorem noneLaw_walk (w : World) (a b : Int) : Calls Try.prog 4 #[.int .i64 a, .int .i64 b] w (Told (.bool true) w) := by
  go_enter Try.func4, Try.ntmps4
  go_wp2_with fail
  go_loopw [5, 6] (fun v t wr => ∃ (k : Nat) (o : Option Addr), k ≤ 2 ∧ v = .pointer o ∧ t = .int .i64 k ∧ NP wr o ∧ Upto NoS w wr)
    (fun _ t _ => 2 - (intOf t).toNat)
  case atStart => exact ⟨0, none, by omega, rfl, rfl, .inl rfl, Upto.refl _ _⟩
  case round =>
    obtain ⟨k, o, hk, rfl, rfl, hN, hU⟩ := hrel
    by_cases hlt : k < 2
    · go_wp2_with (first
        | (go_at_call 22; refine (Now_np _ o hN).mono ?_; rintro e w9 ⟨rfl, hu9⟩; replace hN := hN.upto hu9; replace hU := hU.trans hu9; clear hu9)
        | (go_at_call 11; refine (Enter_np _ o a hN).mono ?_; rintro e w9 ⟨rfl, hu9⟩; replace hN := hN.upto hu9; replace hU := hU.trans hu9; clear hu9)
        | (go_at_call 13; refine (Leave_np _ o a hN).mono ?_; rintro e w9 ⟨rfl, hu9⟩; replace hN := hN.upto hu9; replace hU := hU.trans hu9; clear hu9)
        | (go_at_call 24; refine (In_np _ o a hN).mono ?_; rintro e w9 ⟨rfl, hu9⟩; replace hN := hN.upto hu9; replace hU := hU.trans hu9; clear hu9)
        | (go_at_call 26; refine (Seen_np _ o a hN).mono ?_; rintro e w9 ⟨rfl, hu9⟩; replace hN := hN.upto hu9; replace hU := hU.trans hu9; clear hu9)
        | (go_at_call 15; refine (Adv_np _ o hN).mono ?_; rintro e w9 ⟨rfl, hu9⟩; replace hN := hN.upto hu9; replace hU := hU.trans hu9; clear hu9)
        | (go_at_call 20; refine (Def_np _ o b hN).mono ?_; rintro e w9 ⟨rfl, hu9⟩; replace hN := hN.upto hu9; replace hU := hU.trans hu9; clear hu9)
        | (go_at_call 18; refine (Ripe_np _ o hN).mono ?_; rintro e w9 ⟨rfl, hu9⟩; replace hN := hN.upto hu9; replace hU := hU.trans hu9; clear hu9)
        | (go_at_call 28; refine (Wait_np _ o hN).mono ?_; rintro e w9 ⟨rfl, hu9⟩; replace hN := hN.upto hu9; replace hU := hU.trans hu9; clear hu9))
      go_roundw
      case rel => exact ⟨k + 1, _, by omega, rfl, by go_num, .inr ⟨_, rfl, new_1 _ _ _ 1 _ rfl⟩, hU.alloc _⟩
      case measure => simp [intOf]; omega
    · obtain rfl : k = 2 := by omega
      go_wp2_with (go_at_call 7; refine (waited_any _).mono ?_; rintro e w2 ⟨rfl, hu⟩)
      go_ret
      exact ⟨rfl, hU.trans hu⟩
end Go.Proofs.Ytmmhjibgmpdjoaa
