/- How rows stand: cmp.Compare, cmp.Or and the program's order, walked. -/
import Derived.Test.YtfiblchdfacdiaaWalkC
import Derived.StillTail
import Derived.Sort.Grow
namespace Go.Proofs.Ytfiblchdfacdiaa
open Go Go.RowKit Go.Deep Go.Maps

/-- Which of two numbers is less: -1, 0, 1. -/
def cmpI (a b : Int) : Int := if a < b then -1 else if b < a then 1 else 0
theorem nan60 (w : World) (x : Int) : Calls Try.prog 60 #[.int .u8 x] w fun e w' => e = .returned (.bool false) ∧ w = w' := by
  go_enter Try.func60, Try.ntmps60
  go_wp2
  go_ret
  exact ⟨rfl, rfl⟩
theorem cmp45 (w : World) (a b : Int) : Calls Try.prog 45 #[.int .u8 a, .int .u8 b] w fun e w' => e = .returned (.int .i64 (cmpI a b)) ∧ w' = w := by
  unfold cmpI
  by_cases h1 : a < b
  · rw [if_pos h1]
    go_enter Try.func45, Try.ntmps45
    go_wp2_with (first | (go_at_call 60; refine (nan60 _ _).mono ?_; rintro e w' ⟨rfl, rfl⟩))
    go_ret
    exact ⟨rfl, rfl⟩
  · rw [if_neg h1]
    by_cases h2 : b < a
    · rw [if_pos h2]
      go_enter Try.func45, Try.ntmps45
      go_wp2_with (first | (go_at_call 60; refine (nan60 _ _).mono ?_; rintro e w' ⟨rfl, rfl⟩))
      go_ret
      exact ⟨rfl, rfl⟩
    · rw [if_neg h2]
      go_enter Try.func45, Try.ntmps45
      go_wp2_with (first | (go_at_call 60; refine (nan60 _ _).mono ?_; rintro e w' ⟨rfl, rfl⟩))
      go_ret
      exact ⟨rfl, rfl⟩
theorem nan61 (w : World) (x : Int) : Calls Try.prog 61 #[.int .u32 x] w fun e w' => e = .returned (.bool false) ∧ w = w' := by
  go_enter Try.func61, Try.ntmps61
  go_wp2
  go_ret
  exact ⟨rfl, rfl⟩
theorem cmp46 (w : World) (a b : Int) : Calls Try.prog 46 #[.int .u32 a, .int .u32 b] w fun e w' => e = .returned (.int .i64 (cmpI a b)) ∧ w' = w := by
  unfold cmpI
  by_cases h1 : a < b
  · rw [if_pos h1]
    go_enter Try.func46, Try.ntmps46
    go_wp2_with (first | (go_at_call 61; refine (nan61 _ _).mono ?_; rintro e w' ⟨rfl, rfl⟩))
    go_ret
    exact ⟨rfl, rfl⟩
  · rw [if_neg h1]
    by_cases h2 : b < a
    · rw [if_pos h2]
      go_enter Try.func46, Try.ntmps46
      go_wp2_with (first | (go_at_call 61; refine (nan61 _ _).mono ?_; rintro e w' ⟨rfl, rfl⟩))
      go_ret
      exact ⟨rfl, rfl⟩
    · rw [if_neg h2]
      go_enter Try.func46, Try.ntmps46
      go_wp2_with (first | (go_at_call 61; refine (nan61 _ _).mono ?_; rintro e w' ⟨rfl, rfl⟩))
      go_ret
      exact ⟨rfl, rfl⟩
theorem nan62 (w : World) (x : Int) : Calls Try.prog 62 #[.int .u16 x] w fun e w' => e = .returned (.bool false) ∧ w = w' := by
  go_enter Try.func62, Try.ntmps62
  go_wp2
  go_ret
  exact ⟨rfl, rfl⟩
theorem cmp47 (w : World) (a b : Int) : Calls Try.prog 47 #[.int .u16 a, .int .u16 b] w fun e w' => e = .returned (.int .i64 (cmpI a b)) ∧ w' = w := by
  unfold cmpI
  by_cases h1 : a < b
  · rw [if_pos h1]
    go_enter Try.func47, Try.ntmps47
    go_wp2_with (first | (go_at_call 62; refine (nan62 _ _).mono ?_; rintro e w' ⟨rfl, rfl⟩))
    go_ret
    exact ⟨rfl, rfl⟩
  · rw [if_neg h1]
    by_cases h2 : b < a
    · rw [if_pos h2]
      go_enter Try.func47, Try.ntmps47
      go_wp2_with (first | (go_at_call 62; refine (nan62 _ _).mono ?_; rintro e w' ⟨rfl, rfl⟩))
      go_ret
      exact ⟨rfl, rfl⟩
    · rw [if_neg h2]
      go_enter Try.func47, Try.ntmps47
      go_wp2_with (first | (go_at_call 62; refine (nan62 _ _).mono ?_; rintro e w' ⟨rfl, rfl⟩))
      go_ret
      exact ⟨rfl, rfl⟩
/-- The first of three that isn't nought. -/
def orN (f : Nat → Int) : Int := if f 0 = 0 then if f 1 = 0 then f 2 else f 1 else f 0
theorem orN_at (f : Nat → Int) {k : Nat} (hk : k < 3) (h : ∀ j, j < k → f j = 0) (hn : ¬ f k = 0) : orN f = f k := by
  unfold orN
  rcases (show k = 0 ∨ k = 1 ∨ k = 2 by omega) with rfl | rfl | rfl
  · rw [if_neg hn]
  · rw [if_pos (h 0 (by omega)), if_neg hn]
  · rw [if_pos (h 0 (by omega)), if_pos (h 1 (by omega))]
theorem orN_zero (f : Nat → Int) (h : ∀ j, j < 3 → f j = 0) : orN f = 0 := by
  unfold orN
  rw [if_pos (h 0 (by omega)), if_pos (h 1 (by omega)), h 2 (by omega)]
theorem or44 (w : World) (b : Nat) (f : Nat → Int) (hc : ∀ j, j < 3 → w.cell? ⟨b, j, none⟩ = some (.int .i64 (f j))) :
    Calls Try.prog 44 #[.slice (some ⟨b, 0, none⟩) 3 3] w fun e w' => e = .returned (.int .i64 (orN f)) ∧ w = w' := by
  have HC := Lib.hid hc
  clear hc
  go_enter Try.func44, Try.ntmps44
  go_wp2
  go_loop [8] (fun i => ∃ k : Nat, k ≤ 3 ∧ i = .int .i64 k ∧ Hid (∀ j, j < k → f j = 0)) (fun i => 3 - (intOf i).toNat)
  case atStart => exact ⟨0, by omega, rfl, Lib.hid (fun j hj => by omega)⟩
  case round =>
    obtain ⟨k, hk, rfl, hF⟩ := hrel
    by_cases hlt : k < 3
    · have c := HC.out k hlt
      by_cases h0 : f k = 0
      · rw [h0] at c
        have H0 := Lib.hid h0
        clear h0
        go_wp2
        go_round
        case rel => exact ⟨k + 1, by omega, by go_num, Lib.hid (fun j hj => by
          by_cases e : j = k
          · rw [e]; exact H0.out
          · exact hF.out j (by omega))⟩
        case measure => simp [intOf]; omega
      · have ho := orN_at f hlt hF.out h0
        have HO := Lib.hid ho
        clear ho
        generalize f k = v at c h0 HO
        go_wp2
        go_ret
        exact ⟨by rw [HO.out]; rfl, rfl⟩
    · obtain rfl : k = 3 := by omega
      have ho := orN_zero f hF.out
      have HO := Lib.hid ho
      clear ho
      go_wp2
      go_ret
      exact ⟨by rw [HO.out]; rfl, rfl⟩

/-- Does a row stand ahead of another one? -/
def rlt (a b : Rw) : Bool := decide (a.p < b.p ∨ (a.p = b.p ∧ (a.oa < b.oa ∨ (a.oa = b.oa ∧ a.ob < b.ob))))
theorem rlt_irrefl (a : Rw) : rlt a a = false := by simp [rlt]
theorem rlt_trans (a b c : Rw) (h1 : rlt a b = true) (h2 : rlt b c = true) : rlt a c = true := by
  simp only [rlt, decide_eq_true_eq] at *; omega
theorem rlt_ntrans (a b c : Rw) (h1 : rlt a b = false) (h2 : rlt b c = false) : rlt a c = false := by
  simp only [rlt, decide_eq_false_iff_not] at *; omega
def same (a b : Rw) : Prop := a.p = b.p ∧ a.oa = b.oa ∧ a.ob = b.ob
theorem rlt_total (a b : Rw) (h1 : rlt a b = false) (h2 : rlt b a = false) : same a b := by
  simp only [rlt, same, decide_eq_false_iff_not] at *; omega
/-- How two rows stand. -/
def cfR (a b : Rw) : Int := orN fun j => if j = 0 then cmpI (a.p : Nat) (b.p : Nat) else if j = 1 then cmpI (a.oa : Nat) (b.oa : Nat) else cmpI (a.ob : Nat) (b.ob : Nat)
theorem cfR_lt (a b : Rw) : decide (cfR a b < 0) = rlt a b := by
  rw [Bool.eq_iff_iff]
  simp only [cfR, orN, rlt, cmpI, decide_eq_true_eq]
  by_cases h1 : (a.p : Int) < b.p <;> by_cases h2 : (b.p : Int) < a.p <;> by_cases h3 : (a.oa : Int) < b.oa <;> by_cases h4 : (b.oa : Int) < a.oa <;> by_cases h5 : (a.ob : Int) < b.ob <;> by_cases h6 : (b.ob : Int) < a.ob <;> simp [h1, h2, h3, h4, h5, h6] <;> omega
set_option maxRecDepth 100000 in
set_option maxHeartbeats 1000000 in
theorem order_any (w : World) (a b : Rw) : Calls Try.prog 36 #[rwV a, rwV b] w fun e w' => e = .returned (.int .i64 (cfR a b)) ∧ ∃ q os, w' = Go.Sort.grow (w.drewN q) os := by
  have z0 := new_21 w #[.int .u8 (a.p : Nat), .int .u32 (a.oa : Nat), .int .u16 (a.ob : Nat), .int .u32 (a.ia : Nat), .int .u16 (a.ib : Nat), .int .i64 (a.live : Nat), .int .i64 (a.held : Nat)] #[.int .u8 (b.p : Nat), .int .u32 (b.oa : Nat), .int .u16 (b.ob : Nat), .int .u32 (b.ia : Nat), .int .u16 (b.ib : Nat), .int .i64 (b.live : Nat), .int .i64 (b.held : Nat)] 42 42 0 (.int .u8 (a.p : Nat)) rfl
  have z1 := new_21 w #[.int .u8 (a.p : Nat), .int .u32 (a.oa : Nat), .int .u16 (a.ob : Nat), .int .u32 (a.ia : Nat), .int .u16 (a.ib : Nat), .int .i64 (a.live : Nat), .int .i64 (a.held : Nat)] #[.int .u8 (b.p : Nat), .int .u32 (b.oa : Nat), .int .u16 (b.ob : Nat), .int .u32 (b.ia : Nat), .int .u16 (b.ib : Nat), .int .i64 (b.live : Nat), .int .i64 (b.held : Nat)] 42 42 1 (.int .u32 (a.oa : Nat)) rfl
  have z2 := new_21 w #[.int .u8 (a.p : Nat), .int .u32 (a.oa : Nat), .int .u16 (a.ob : Nat), .int .u32 (a.ia : Nat), .int .u16 (a.ib : Nat), .int .i64 (a.live : Nat), .int .i64 (a.held : Nat)] #[.int .u8 (b.p : Nat), .int .u32 (b.oa : Nat), .int .u16 (b.ob : Nat), .int .u32 (b.ia : Nat), .int .u16 (b.ib : Nat), .int .i64 (b.live : Nat), .int .i64 (b.held : Nat)] 42 42 2 (.int .u16 (a.ob : Nat)) rfl
  have y0 := new_22 w #[.int .u8 (a.p : Nat), .int .u32 (a.oa : Nat), .int .u16 (a.ob : Nat), .int .u32 (a.ia : Nat), .int .u16 (a.ib : Nat), .int .i64 (a.live : Nat), .int .i64 (a.held : Nat)] #[.int .u8 (b.p : Nat), .int .u32 (b.oa : Nat), .int .u16 (b.ob : Nat), .int .u32 (b.ia : Nat), .int .u16 (b.ib : Nat), .int .i64 (b.live : Nat), .int .i64 (b.held : Nat)] 42 42 0 (.int .u8 (b.p : Nat)) rfl
  have y1 := new_22 w #[.int .u8 (a.p : Nat), .int .u32 (a.oa : Nat), .int .u16 (a.ob : Nat), .int .u32 (a.ia : Nat), .int .u16 (a.ib : Nat), .int .i64 (a.live : Nat), .int .i64 (a.held : Nat)] #[.int .u8 (b.p : Nat), .int .u32 (b.oa : Nat), .int .u16 (b.ob : Nat), .int .u32 (b.ia : Nat), .int .u16 (b.ib : Nat), .int .i64 (b.live : Nat), .int .i64 (b.held : Nat)] 42 42 1 (.int .u32 (b.oa : Nat)) rfl
  have y2 := new_22 w #[.int .u8 (a.p : Nat), .int .u32 (a.oa : Nat), .int .u16 (a.ob : Nat), .int .u32 (a.ia : Nat), .int .u16 (a.ib : Nat), .int .i64 (a.live : Nat), .int .i64 (a.held : Nat)] #[.int .u8 (b.p : Nat), .int .u32 (b.oa : Nat), .int .u16 (b.ob : Nat), .int .u32 (b.ia : Nat), .int .u16 (b.ib : Nat), .int .i64 (b.live : Nat), .int .i64 (b.held : Nat)] 42 42 2 (.int .u16 (b.ob : Nat)) rfl
  have HW : Hid (∃ q os, ((w.alloc (.cells #[.int .u8 (a.p : Nat), .int .u32 (a.oa : Nat), .int .u16 (a.ob : Nat), .int .u32 (a.ia : Nat), .int .u16 (a.ib : Nat), .int .i64 (a.live : Nat), .int .i64 (a.held : Nat)] 42)).alloc (.cells #[.int .u8 (b.p : Nat), .int .u32 (b.oa : Nat), .int .u16 (b.ob : Nat), .int .u32 (b.ia : Nat), .int .u16 (b.ib : Nat), .int .i64 (b.live : Nat), .int .i64 (b.held : Nat)] 42)).drew = Go.Sort.grow (w.drewN q) os) :=
    Lib.hid ⟨1, #[.cells #[.int .u8 (a.p : Nat), .int .u32 (a.oa : Nat), .int .u16 (a.ob : Nat), .int .u32 (a.ia : Nat), .int .u16 (a.ib : Nat), .int .i64 (a.live : Nat), .int .i64 (a.held : Nat)] 42] ++ #[.cells #[.int .u8 (b.p : Nat), .int .u32 (b.oa : Nat), .int .u16 (b.ob : Nat), .int .u32 (b.ia : Nat), .int .u16 (b.ib : Nat), .int .i64 (b.live : Nat), .int .i64 (b.held : Nat)] 42], by rw [Go.Sort.alloc_eq_grow, Go.Sort.alloc_eq_grow, Go.Sort.grow_grow]; rfl⟩
  go_enter Try.func36, Try.ntmps36
  go_wp2_with fail
  generalize (w.alloc (.cells #[.int .u8 (a.p : Nat), .int .u32 (a.oa : Nat), .int .u16 (a.ob : Nat), .int .u32 (a.ia : Nat), .int .u16 (a.ib : Nat), .int .i64 (a.live : Nat), .int .i64 (a.held : Nat)] 42)).alloc (.cells #[.int .u8 (b.p : Nat), .int .u32 (b.oa : Nat), .int .u16 (b.ob : Nat), .int .u32 (b.ia : Nat), .int .u16 (b.ib : Nat), .int .i64 (b.live : Nat), .int .i64 (b.held : Nat)] 42) = W at z0 z1 z2 y0 y1 y2 HW ⊢
  have z0 : W.drew.cell? ⟨w.heap.size, 0, none⟩ = _ := z0
  have z1 : W.drew.cell? ⟨w.heap.size, 1, none⟩ = _ := z1
  have z2 : W.drew.cell? ⟨w.heap.size, 2, none⟩ = _ := z2
  have y0 : W.drew.cell? ⟨w.heap.size + 1, 0, none⟩ = _ := y0
  have y1 : W.drew.cell? ⟨w.heap.size + 1, 1, none⟩ = _ := y1
  have y2 : W.drew.cell? ⟨w.heap.size + 1, 2, none⟩ = _ := y2
  refine wp_region_still_tail 19 (by kernel_rfl) (by kernel_rfl) ?_
  simp only [List.take_succ_cons, List.take_zero, List.drop_succ_cons, List.drop_zero]
  change wpStill _ _ W.drew _ _ _
  change wpStill _ _ _ (fun a' => wpList _ _ _ _ a' W.drew) _ _
  generalize W.drew = W2 at z0 z1 z2 y0 y1 y2 HW ⊢
  repeat (first | still_step | still_call (cmp45 _ _ _) | still_call (cmp46 _ _ _) | still_call (cmp47 _ _ _))
  refine wpStill_nil ?_
  have hn : ∀ j, j < 3 → (W2.alloc (.cells #[.int .i64 (cmpI (a.p : Nat) (b.p : Nat)), .int .i64 (cmpI (a.oa : Nat) (b.oa : Nat)), .int .i64 (cmpI (a.ob : Nat) (b.ob : Nat))] 3)).cell? ⟨W2.heap.size, j, none⟩ = some (.int .i64 (if j = 0 then cmpI (a.p : Nat) (b.p : Nat) else if j = 1 then cmpI (a.oa : Nat) (b.oa : Nat) else cmpI (a.ob : Nat) (b.ob : Nat))) := fun j hj => by
    rcases (show j = 0 ∨ j = 1 ∨ j = 2 by omega) with rfl | rfl | rfl
    · exact new_1 _ _ _ 0 _ rfl
    · exact new_1 _ _ _ 1 _ rfl
    · exact new_1 _ _ _ 2 _ rfl
  have HN := Lib.hid hn
  clear hn
  go_wp2_with (go_at_call 44; refine (or44 _ _ _ HN.out).mono ?_; rintro e w' ⟨rfl, rfl⟩)
  go_ret
  obtain ⟨q, os, rfl⟩ := HW.out
  exact ⟨rfl, q, _, by rw [Go.Sort.alloc_eq_grow, Go.Sort.grow_grow]⟩

/-! ### Rows as cells; sorted -/
abbrev wcs (r : Rw) : List Value := [.int .u8 (r.p : Nat), .int .u32 (r.oa : Nat), .int .u16 (r.ob : Nat), .int .u32 (r.ia : Nat), .int .u16 (r.ib : Nat), .int .i64 (r.live : Nat), .int .i64 (r.held : Nat)]
def wcl (L : List Rw) : List Value := L.flatMap wcs
theorem wcl_append (L M : List Rw) : wcl (L ++ M) = wcl L ++ wcl M := by simp [wcl]
theorem wcl_length (L : List Rw) : (wcl L).length = L.length * 7 := by
  induction L with
  | nil => rfl
  | cons p l ih => simp only [wcl, List.flatMap_cons, List.length_append, List.length_cons, List.length_nil] at ih ⊢; omega
def rwAt (L : List Rw) (j : Nat) : Rw := L.getD j default
theorem rwAt_get (L : List Rw) {j : Nat} (h : j < L.length) : rwAt L j = L[j] := by
  unfold rwAt
  rw [List.getD_eq_getElem?_getD, List.getElem?_eq_getElem h]; rfl
theorem rwAt_mem (L : List Rw) {j : Nat} (h : j < L.length) : rwAt L j ∈ L := by rw [rwAt_get L h]; exact List.getElem_mem h
theorem wcl_at (L : List Rw) (j : Nat) (h : j < L.length) (i : Nat) (hi : i < 7) : (wcl L)[j * 7 + i]? = some (rwF (rwAt L j) i) := by
  induction L generalizing j with
  | nil => simp at h
  | cons p l ih =>
    cases j with
    | zero =>
      rw [Nat.zero_mul, Nat.zero_add, show wcl (p :: l) = wcs p ++ wcl l from rfl, List.getElem?_append_left (by simpa using hi)]
      match i, hi with
      | 0, _ => rfl | 1, _ => rfl | 2, _ => rfl | 3, _ => rfl | 4, _ => rfl | 5, _ => rfl | 6, _ => rfl
    | succ j =>
      have := ih j (by simpa using h)
      rw [show (j + 1) * 7 + i = 7 + (j * 7 + i) from by omega, show wcl (p :: l) = wcs p ++ wcl l from rfl, List.getElem?_append_right (by show 7 ≤ _; omega), show (wcs p).length = 7 from rfl, Nat.add_sub_cancel_left, this]
      rfl
theorem wcs_one (r : Rw) : ∀ u ∈ wcs r, u.oneCell' = true := by
  intro u hu; simp at hu; rcases hu with rfl | rfl | rfl | rfl | rfl | rfl | rfl <;> rfl
theorem wcl_one (L : List Rw) : ∀ u ∈ wcl L, u.oneCell' = true := by
  intro u hu
  obtain ⟨t, _, h⟩ := List.mem_flatMap.1 hu
  exact wcs_one t u h
/-- The rows in their order. -/
def srt (L : List Rw) : List Rw := L.mergeSort fun x y => !rlt y x
theorem srt_perm (L : List Rw) : (srt L).Perm L := List.mergeSort_perm _ _
theorem srt_len (L : List Rw) : (srt L).length = L.length := (srt_perm L).length_eq
end Go.Proofs.Ytfiblchdfacdiaa
