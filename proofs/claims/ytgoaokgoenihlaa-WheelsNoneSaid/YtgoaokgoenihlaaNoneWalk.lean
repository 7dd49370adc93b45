/- What wheels that are none answer; and WheelsNone, walked. -/
import Derived.Test.YtgoaokgoenihlaaWalkL
namespace Go.Proofs.Ytgoaokgoenihlaa
open Go Go.RowKit Go.Deep Go.Maps

/-- The pointer leads to no wheel: nil, or without a map. -/
def NP (w : World) (v : Option Addr) : Prop := v = none ∨ ∃ b, v = some ⟨b, 0, none⟩ ∧ w.cell? ⟨b, 1, none⟩ = some (.map none)
theorem NP.upto {w w' : World} {v : Option Addr} (h : NP w v) (hu : Upto NoS w w') : NP w' v := by
  rcases h with h | ⟨b, hv, hc⟩
  · exact .inl h
  · exact .inr ⟨b, hv, hu.keep hc id⟩
theorem NP.alloc {w : World} {v : Option Addr} (h : NP w v) (o : Obj) : NP (w.alloc o) v := h.upto ((Upto.refl _ _).alloc o)
theorem none_np (w : World) (v : Option Addr) (h : NP w v) : Calls Try.prog 25 #[.pointer v] w fun e w' => e = .returned (.bool true) ∧ w = w' := by
  rcases h with rfl | ⟨b, rfl, hc⟩
  · exact none_nil w
  · exact none_zero w b hc
theorem Turn_np (w : World) (v : Option Addr) (n : Int) (h : NP w v) : Calls Try.prog 12 #[.pointer v, .int .i64 n] w (Told (.tuple #[.slice none 0 0, .int .i64 1]) w) := by
  go_enter Try.func12, Try.ntmps12
  go_wp2_with (go_at_call 25; refine (none_np _ _ h).mono ?_; rintro e w' ⟨rfl, rfl⟩)
  go_ret2
  exact ⟨rfl, Upto.refl _ _⟩
theorem Due_np (w : World) (v : Option Addr) (a : Hn) (h : NP w v) : Calls Try.prog 21 #[.pointer v, hv a] w (Told (.tuple #[.int .i64 0, .bool false]) w) := by
  have hU : Upto NoS w (w.alloc (.cells #[.int .i64 a.s, .int .u32 (a.g : Nat)] 31)) := (Upto.refl _ w).alloc _
  replace h := h.alloc (.cells #[.int .i64 a.s, .int .u32 (a.g : Nat)] 31)
  go_enter Try.func21, Try.ntmps21
  go_wp2_with (go_at_call 25; refine (none_np _ _ h).mono ?_; rintro e w' ⟨rfl, rfl⟩)
  go_ret2
  exact ⟨rfl, hU⟩
theorem Next_np (w : World) (v : Option Addr) (h : NP w v) : Calls Try.prog 11 #[.pointer v] w (Told (.tuple #[.int .i64 0, .bool false]) w) := by
  go_enter Try.func11, Try.ntmps11
  go_wp2_with (go_at_call 25; refine (none_np _ _ h).mono ?_; rintro e w' ⟨rfl, rfl⟩)
  go_ret2
  exact ⟨rfl, Upto.refl _ _⟩
theorem Put_np (w : World) (v : Option Addr) (a : Hn) (n : Int) (h : NP w v) : Calls Try.prog 10 #[.pointer v, hv a, .int .i64 n] w (Told (.int .i64 1) w) := by
  have hU : Upto NoS w (w.alloc (.cells #[.int .i64 a.s, .int .u32 (a.g : Nat)] 31)) := (Upto.refl _ w).alloc _
  replace h := h.alloc (.cells #[.int .i64 a.s, .int .u32 (a.g : Nat)] 31)
  go_enter Try.func10, Try.ntmps10
  go_wp2_with (go_at_call 25; refine (none_np _ _ h).mono ?_; rintro e w' ⟨rfl, rfl⟩)
  go_ret
  exact ⟨rfl, hU⟩
theorem Cut_np (w : World) (v : Option Addr) (a : Hn) (h : NP w v) : Calls Try.prog 15 #[.pointer v, hv a] w (Told (.bool false) w) := by
  have hU : Upto NoS w (w.alloc (.cells #[.int .i64 a.s, .int .u32 (a.g : Nat)] 31)) := (Upto.refl _ w).alloc _
  replace h := h.alloc (.cells #[.int .i64 a.s, .int .u32 (a.g : Nat)] 31)
  go_enter Try.func15, Try.ntmps15
  go_wp2_with (go_at_call 25; refine (none_np _ _ h).mono ?_; rintro e w' ⟨rfl, rfl⟩)
  go_ret
  exact ⟨rfl, hU⟩
theorem Count_np (w : World) (v : Option Addr) (h : NP w v) : Calls Try.prog 13 #[.pointer v] w (Told (.int .i64 0) w) := by
  go_enter Try.func13, Try.ntmps13
  go_wp2_with (go_at_call 25; refine (none_np _ _ h).mono ?_; rintro e w' ⟨rfl, rfl⟩)
  go_ret
  exact ⟨rfl, Upto.refl _ _⟩

set_option maxRecDepth 100000 in
set_option maxHeartbeats 2000000 in
theorem noneLaw_walk (w : World) (a : Hn) (n : Int) : Calls Try.prog 7 #[hv a, .int .i64 n] w (Told (.bool true) w) := by
  have n0 := new_1 w #[.int .i64 a.s, .int .u32 (a.g : Nat)] 31 0 (.int .i64 a.s) rfl
  have n1 := new_1 w #[.int .i64 a.s, .int .u32 (a.g : Nat)] 31 1 (.int .u32 (a.g : Nat)) rfl
  have hu0 : Upto NoS w (w.alloc (.cells #[.int .i64 a.s, .int .u32 (a.g : Nat)] 31)) := (Upto.refl _ w).alloc _
  go_enter Try.func7, Try.ntmps7
  go_wp2_with fail
  generalize w.heap.size = b at n0 n1 ⊢
  go_loopw [5, 6] (fun v t wr => ∃ (k : Nat) (o : Option Addr), k ≤ 2 ∧ v = .pointer o ∧ t = .int .i64 k ∧ NP wr o ∧ wr.cell? ⟨b, 0, none⟩ = some (.int .i64 a.s) ∧ wr.cell? ⟨b, 1, none⟩ = some (.int .u32 (a.g : Nat)) ∧ Upto NoS w wr)
    (fun _ t _ => 2 - (intOf t).toNat)
  case atStart => exact ⟨0, none, by omega, rfl, rfl, .inl rfl, n0, n1, hu0⟩
  case round =>
    clear n0 n1 hu0
    obtain ⟨k, o, hk, rfl, rfl, hN, h0, h1, hU⟩ := hrel
    by_cases hlt : k < 2
    · go_wp2_with (first
        | (go_at_call 12; refine (Turn_np _ o n hN).mono ?_; rintro e w9 ⟨rfl, hu9⟩; replace hN := hN.upto hu9; replace h0 := hu9.keep h0 id; replace h1 := hu9.keep h1 id; replace hU := hU.trans hu9; clear hu9)
        | (go_at_call 21; refine (Due_np _ o a hN).mono ?_; rintro e w9 ⟨rfl, hu9⟩; replace hN := hN.upto hu9; replace h0 := hu9.keep h0 id; replace h1 := hu9.keep h1 id; replace hU := hU.trans hu9; clear hu9)
        | (go_at_call 11; refine (Next_np _ o hN).mono ?_; rintro e w9 ⟨rfl, hu9⟩; replace hN := hN.upto hu9; replace h0 := hu9.keep h0 id; replace h1 := hu9.keep h1 id; replace hU := hU.trans hu9; clear hu9)
        | (go_at_call 10; refine (Put_np _ o a n hN).mono ?_; rintro e w9 ⟨rfl, hu9⟩; replace hN := hN.upto hu9; replace h0 := hu9.keep h0 id; replace h1 := hu9.keep h1 id; replace hU := hU.trans hu9; clear hu9)
        | (go_at_call 15; refine (Cut_np _ o a hN).mono ?_; rintro e w9 ⟨rfl, hu9⟩; replace hN := hN.upto hu9; replace h0 := hu9.keep h0 id; replace h1 := hu9.keep h1 id; replace hU := hU.trans hu9; clear hu9)
        | (go_at_call 13; refine (Count_np _ o hN).mono ?_; rintro e w9 ⟨rfl, hu9⟩; replace hN := hN.upto hu9; replace h0 := hu9.keep h0 id; replace h1 := hu9.keep h1 id; replace hU := hU.trans hu9; clear hu9))
      go_roundw
      case rel => exact ⟨k + 1, _, by omega, rfl, by go_num, .inr ⟨_, rfl, new_1 _ _ _ 1 _ rfl⟩, keep_alloc h0 _, keep_alloc h1 _, hU.alloc _⟩
      case measure => simp [intOf]; omega
    · obtain rfl : k = 2 := by omega
      go_wp2_with (go_at_call 9; refine (timed_any _).mono ?_; rintro e w2 ⟨rfl, hu⟩)
      go_ret
      exact ⟨rfl, hU.trans hu⟩
end Go.Proofs.Ytgoaokgoenihlaa
