/- How timers stand: cmp.Compare, cmp.Or and the program's order, walked; Cut's and take's closures. -/
import Derived.Test.YtgoaokgoenihlaaAt
import Derived.Test.YtgoaokgoenihlaaTold
import Derived.Sort.Grow
namespace Go.Proofs.Ytgoaokgoenihlaa
open Go Go.RowKit Go.Deep Go.Maps

/-- Which of two numbers is less: -1, 0, 1. -/
def cmpI (a b : Int) : Int := if a < b then -1 else if b < a then 1 else 0
theorem nan50 (w : World) (x : Int) : Calls Try.prog 50 #[.int .i64 x] w fun e w' => e = .returned (.bool false) ∧ w = w' := by
  go_enter Try.func50, Try.ntmps50
  go_wp2
  go_ret
  exact ⟨rfl, rfl⟩
theorem nan51 (w : World) (x : Int) : Calls Try.prog 51 #[.int .u32 x] w fun e w' => e = .returned (.bool false) ∧ w = w' := by
  go_enter Try.func51, Try.ntmps51
  go_wp2
  go_ret
  exact ⟨rfl, rfl⟩
theorem cmp37 (w : World) (a b : Int) : Calls Try.prog 37 #[.int .i64 a, .int .i64 b] w fun e w' => e = .returned (.int .i64 (cmpI a b)) ∧ w' = w := by
  unfold cmpI
  by_cases h1 : a < b
  · rw [if_pos h1]
    go_enter Try.func37, Try.ntmps37
    go_wp2_with (first | (go_at_call 50; refine (nan50 _ _).mono ?_; rintro e w' ⟨rfl, rfl⟩))
    go_ret
    exact ⟨rfl, rfl⟩
  · rw [if_neg h1]
    by_cases h2 : b < a
    · rw [if_pos h2]
      go_enter Try.func37, Try.ntmps37
      go_wp2_with (first | (go_at_call 50; refine (nan50 _ _).mono ?_; rintro e w' ⟨rfl, rfl⟩))
      go_ret
      exact ⟨rfl, rfl⟩
    · rw [if_neg h2]
      go_enter Try.func37, Try.ntmps37
      go_wp2_with (first | (go_at_call 50; refine (nan50 _ _).mono ?_; rintro e w' ⟨rfl, rfl⟩))
      go_ret
      exact ⟨rfl, rfl⟩
theorem cmp38 (w : World) (a b : Int) : Calls Try.prog 38 #[.int .u32 a, .int .u32 b] w fun e w' => e = .returned (.int .i64 (cmpI a b)) ∧ w' = w := by
  unfold cmpI
  by_cases h1 : a < b
  · rw [if_pos h1]
    go_enter Try.func38, Try.ntmps38
    go_wp2_with (first | (go_at_call 51; refine (nan51 _ _).mono ?_; rintro e w' ⟨rfl, rfl⟩))
    go_ret
    exact ⟨rfl, rfl⟩
  · rw [if_neg h1]
    by_cases h2 : b < a
    · rw [if_pos h2]
      go_enter Try.func38, Try.ntmps38
      go_wp2_with (first | (go_at_call 51; refine (nan51 _ _).mono ?_; rintro e w' ⟨rfl, rfl⟩))
      go_ret
      exact ⟨rfl, rfl⟩
    · rw [if_neg h2]
      go_enter Try.func38, Try.ntmps38
      go_wp2_with (first | (go_at_call 51; refine (nan51 _ _).mono ?_; rintro e w' ⟨rfl, rfl⟩))
      go_ret
      exact ⟨rfl, rfl⟩
/-- The first of three that isn't nought. -/
def orN (f : Nat → Int) : Int := if f 0 = 0 then if f 1 = 0 then f 2 else f 1 else f 0
theorem orN_at (f : Nat → Int) {k : Nat} (hk : k < 3) (h : ∀ j, j < k → f j = 0) (hn : ¬ f k = 0) : orN f = f k := by
  unfold orN
  rcases (show k = 0 ∨ k = 1 ∨ k = 2 by omega) with rfl | rfl | rfl
  · rw [if_neg hn]
  · rw [if_pos (h 0 (by omega)), if_neg hn]
  · rw [if_pos (h 0 (by omega)), if_pos (h 1 (by omega))]
theorem orN_zero (f : Nat → Int) (h : ∀ j, j < 3 → f j = 0) : orN f = 0 := by
  unfold orN
  rw [if_pos (h 0 (by omega)), if_pos (h 1 (by omega)), h 2 (by omega)]
theorem or36 (w : World) (b : Nat) (f : Nat → Int) (hc : ∀ j, j < 3 → w.cell? ⟨b, j, none⟩ = some (.int .i64 (f j))) :
    Calls Try.prog 36 #[.slice (some ⟨b, 0, none⟩) 3 3] w fun e w' => e = .returned (.int .i64 (orN f)) ∧ w = w' := by
  have HC := Lib.hid hc
  clear hc
  go_enter Try.func36, Try.ntmps36
  go_wp2
  go_loop [8] (fun i => ∃ k : Nat, k ≤ 3 ∧ i = .int .i64 k ∧ Hid (∀ j, j < k → f j = 0)) (fun i => 3 - (intOf i).toNat)
  case atStart => exact ⟨0, by omega, rfl, Lib.hid (fun j hj => by omega)⟩
  case round =>
    obtain ⟨k, hk, rfl, hF⟩ := hrel
    by_cases hlt : k < 3
    · have c := HC.out k hlt
      by_cases h0 : f k = 0
      · rw [h0] at c
        have H0 := Lib.hid h0
        clear h0
        go_wp2
        go_round
        case rel => exact ⟨k + 1, by omega, by go_num, Lib.hid (fun j hj => by
          by_cases e : j = k
          · rw [e]; exact H0.out
          · exact hF.out j (by omega))⟩
        case measure => simp [intOf]; omega
      · have ho := orN_at f hlt hF.out h0
        have HO := Lib.hid ho
        clear ho
        generalize f k = v at c h0 HO
        go_wp2
        go_ret
        exact ⟨by rw [HO.out]; rfl, rfl⟩
    · obtain rfl : k = 3 := by omega
      have ho := orN_zero f hF.out
      have HO := Lib.hid ho
      clear ho
      go_wp2
      go_ret
      exact ⟨by rw [HO.out]; rfl, rfl⟩

/-- How two timers stand. -/
def cfT (a b : Tm) : Int := orN fun j => if j = 0 then cmpI (a.d : Nat) (b.d : Nat) else if j = 1 then cmpI a.h.s b.h.s else cmpI (a.h.g : Nat) (b.h.g : Nat)
theorem cfT_lt (a b : Tm) : decide (cfT a b < 0) = tlt a b := by
  rw [Bool.eq_iff_iff]
  simp only [cfT, orN, tlt, cmpI, decide_eq_true_eq]
  by_cases h1 : (a.d : Int) < b.d <;> by_cases h2 : (b.d : Int) < a.d <;> by_cases h3 : a.h.s < b.h.s <;> by_cases h4 : b.h.s < a.h.s <;> by_cases h5 : (a.h.g : Int) < b.h.g <;> by_cases h6 : (b.h.g : Int) < a.h.g <;> simp [h1, h2, h3, h4, h5, h6] <;> omega
set_option maxRecDepth 100000 in
set_option maxHeartbeats 1000000 in
theorem order_any (w : World) (a b : Tm) : Calls Try.prog 28 #[tmv a, tmv b] w fun e w' => e = .returned (.int .i64 (cfT a b)) ∧ ∃ q os, w' = Go.Sort.grow (w.drewN q) os := by
  have z0 := new_21 w #[.int .i64 (a.d : Nat), .int .i64 a.h.s, .int .u32 (a.h.g : Nat)] #[.int .i64 (b.d : Nat), .int .i64 b.h.s, .int .u32 (b.h.g : Nat)] 69 69 0 (.int .i64 (a.d : Nat)) rfl
  have z1 := new_21 w #[.int .i64 (a.d : Nat), .int .i64 a.h.s, .int .u32 (a.h.g : Nat)] #[.int .i64 (b.d : Nat), .int .i64 b.h.s, .int .u32 (b.h.g : Nat)] 69 69 1 (.int .i64 a.h.s) rfl
  have z2 := new_21 w #[.int .i64 (a.d : Nat), .int .i64 a.h.s, .int .u32 (a.h.g : Nat)] #[.int .i64 (b.d : Nat), .int .i64 b.h.s, .int .u32 (b.h.g : Nat)] 69 69 2 (.int .u32 (a.h.g : Nat)) rfl
  have y0 := new_22 w #[.int .i64 (a.d : Nat), .int .i64 a.h.s, .int .u32 (a.h.g : Nat)] #[.int .i64 (b.d : Nat), .int .i64 b.h.s, .int .u32 (b.h.g : Nat)] 69 69 0 (.int .i64 (b.d : Nat)) rfl
  have y1 := new_22 w #[.int .i64 (a.d : Nat), .int .i64 a.h.s, .int .u32 (a.h.g : Nat)] #[.int .i64 (b.d : Nat), .int .i64 b.h.s, .int .u32 (b.h.g : Nat)] 69 69 1 (.int .i64 b.h.s) rfl
  have y2 := new_22 w #[.int .i64 (a.d : Nat), .int .i64 a.h.s, .int .u32 (a.h.g : Nat)] #[.int .i64 (b.d : Nat), .int .i64 b.h.s, .int .u32 (b.h.g : Nat)] 69 69 2 (.int .u32 (b.h.g : Nat)) rfl
  have HW : Hid (∃ q os, ((w.alloc (.cells #[.int .i64 (a.d : Nat), .int .i64 a.h.s, .int .u32 (a.h.g : Nat)] 69)).alloc (.cells #[.int .i64 (b.d : Nat), .int .i64 b.h.s, .int .u32 (b.h.g : Nat)] 69)).drew = Go.Sort.grow (w.drewN q) os) :=
    Lib.hid ⟨1, #[.cells #[.int .i64 (a.d : Nat), .int .i64 a.h.s, .int .u32 (a.h.g : Nat)] 69] ++ #[.cells #[.int .i64 (b.d : Nat), .int .i64 b.h.s, .int .u32 (b.h.g : Nat)] 69], by rw [Go.Sort.alloc_eq_grow, Go.Sort.alloc_eq_grow, Go.Sort.grow_grow]; rfl⟩
  go_enter Try.func28, Try.ntmps28
  go_wp2_with fail
  generalize (w.alloc (.cells #[.int .i64 (a.d : Nat), .int .i64 a.h.s, .int .u32 (a.h.g : Nat)] 69)).alloc (.cells #[.int .i64 (b.d : Nat), .int .i64 b.h.s, .int .u32 (b.h.g : Nat)] 69) = W at z0 z1 z2 y0 y1 y2 HW ⊢
  have z0 : W.drew.cell? ⟨w.heap.size, 0, none⟩ = _ := z0
  have z1 : W.drew.cell? ⟨w.heap.size, 1, none⟩ = _ := z1
  have z2 : W.drew.cell? ⟨w.heap.size, 2, none⟩ = _ := z2
  have y0 : W.drew.cell? ⟨w.heap.size + 1, 0, none⟩ = _ := y0
  have y1 : W.drew.cell? ⟨w.heap.size + 1, 1, none⟩ = _ := y1
  have y2 : W.drew.cell? ⟨w.heap.size + 1, 2, none⟩ = _ := y2
  refine wp_region_still_tail 19 (by kernel_rfl) (by kernel_rfl) ?_
  simp only [List.take_succ_cons, List.take_zero, List.drop_succ_cons, List.drop_zero]
  change wpStill _ _ W.drew _ _ _
  change wpStill _ _ _ (fun a' => wpList _ _ _ _ a' W.drew) _ _
  generalize W.drew = W2 at z0 z1 z2 y0 y1 y2 HW ⊢
  repeat (first | still_step | still_call (cmp37 _ _ _) | still_call (cmp38 _ _ _))
  refine wpStill_nil ?_
  have hn : ∀ j, j < 3 → (W2.alloc (.cells #[.int .i64 (cmpI (a.d : Nat) (b.d : Nat)), .int .i64 (cmpI a.h.s b.h.s), .int .i64 (cmpI (a.h.g : Nat) (b.h.g : Nat))] 3)).cell? ⟨W2.heap.size, j, none⟩ = some (.int .i64 (if j = 0 then cmpI (a.d : Nat) (b.d : Nat) else if j = 1 then cmpI a.h.s b.h.s else cmpI (a.h.g : Nat) (b.h.g : Nat))) := fun j hj => by
    rcases (show j = 0 ∨ j = 1 ∨ j = 2 by omega) with rfl | rfl | rfl
    · exact new_1 _ _ _ 0 _ rfl
    · exact new_1 _ _ _ 1 _ rfl
    · exact new_1 _ _ _ 2 _ rfl
  have HN := Lib.hid hn
  clear hn
  go_wp2_with (go_at_call 36; refine (or36 _ _ _ HN.out).mono ?_; rintro e w' ⟨rfl, rfl⟩)
  go_ret
  obtain ⟨q, os, rfl⟩ := HW.out
  exact ⟨rfl, q, _, by rw [Go.Sort.alloc_eq_grow, Go.Sort.grow_grow]⟩
end Go.Proofs.Ytgoaokgoenihlaa
