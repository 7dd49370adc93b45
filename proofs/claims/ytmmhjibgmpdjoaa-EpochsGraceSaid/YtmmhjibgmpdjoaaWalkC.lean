/- slices.IndexFunc at what waits, walked with both function values. -/
import Derived.Test.YtmmhjibgmpdjoaaWalkB
namespace Go.Proofs.Ytmmhjibgmpdjoaa
open Go Go.RowKit Go.Deep Md

def ovAt (now : Nat) (H : List (Nat × Nat)) (j : Nat) : Bool := decide (p2 H j + 2 ≤ now)
def hsAt (s : Int) (H : List (Nat × Nat)) (j : Nat) : Bool := (p1 H j : Int) == s
theorem Ix_nil (w : World) (c : Nat) (a : Option Addr) (fv : Value) : Calls Try.prog 42 #[.slice a 0 c, fv] w (Told (.int .i64 (-1)) w) := by
  go_enter Try.func42, Try.ntmps42
  go_wp2_with fail
  go_loopw [5, 8] (fun _ i wr => i = .int .i64 (0 : Nat) ∧ wr = w) (fun _ i _ => 0)
  case atStart => exact ⟨rfl, rfl⟩
  case round =>
    obtain ⟨rfl, rfl⟩ := hrel
    go_wp2
    go_ret
    exact ⟨rfl, Upto.refl _ _⟩
/-- The first place at which it holds. -/
theorem first_of {p : Nat → Bool} {n : Nat} (h : ∃ j, j < n ∧ p j = true) : ∃ i, i < n ∧ p i = true ∧ ∀ j, j < i → p j = false := by
  induction n with
  | zero => obtain ⟨j, hj, _⟩ := h; omega
  | succ n ih =>
    by_cases h' : ∃ j, j < n ∧ p j = true
    · obtain ⟨i, hi, hp, hno⟩ := ih h'
      exact ⟨i, by omega, hp, hno⟩
    · obtain ⟨j, hj, hp⟩ := h
      have hall : ∀ i, i < n → p i = false := fun i hi => by
        cases hb : p i
        · rfl
        · exact (h' ⟨i, hi, hb⟩).elim
      have hjn : j = n := by
        rcases Nat.lt_or_ge j n with hl | hl
        · exact (h' ⟨j, hl, hp⟩).elim
        · omega
      subst hjn
      exact ⟨j, hj, hp, hall⟩

theorem IxOv_no (w : World) (base q cap : Nat) (H : List (Nat × Nat)) (x now : Nat) (ho : w.ownsRow base 59 2 (.slice (some ⟨q, 0, none⟩) H.length cap) H.length (pcl H)) (hl : H.length ≤ 1000000) (hc : w.cell? ⟨x, 0, none⟩ = some (.int .i64 (now : Nat))) (hn : now ≤ 1000000) (hb : ∀ j, j < H.length → p2 H j ≤ 1000000) (hno : ∀ j, j < H.length → ovAt now H j = false) :
    Calls Try.prog 42 #[.slice (some ⟨q, 0, none⟩) H.length cap, .func (.func 36) #[.pointer (some ⟨x, 0, none⟩)] #[]] w (Told (.int .i64 (-1)) w) := by
  have HN := Lib.hid hno
  have HO := Lib.hid ho
  have HC := Lib.hid hc
  have HB := Lib.hid hb
  clear hc hb
  clear hno ho
  go_enter Try.func42, Try.ntmps42
  go_wp2_with fail
  go_loopw [5, 8] (fun _ i wr => ∃ k : Nat, k ≤ H.length ∧ i = .int .i64 k ∧ Upto NoS w wr) (fun _ i _ => H.length - (intOf i).toNat)
  case atStart => exact ⟨0, by omega, rfl, Upto.refl _ _⟩
  case round =>
    obtain ⟨k, hk, rfl, hu⟩ := hrel
    by_cases hlt : k < H.length
    · have s0 := hu.keep (own_pcl HO.out k hlt).1 id
      have s1 := hu.keep (own_pcl HO.out k hlt).2 id
      go_wp2_with (go_at_call 36; refine (over_any _ x now _ _ false (hu.keep HC.out id) hn (HB.out k hlt) (HN.out k hlt)).mono ?_; rintro e w1 ⟨rfl, hu1⟩)
      go_roundw
      case rel => exact ⟨k + 1, by omega, by go_num, hu.trans hu1⟩
      case measure => simp [intOf]; omega
    · go_wp2
      go_ret
      exact ⟨rfl, hu⟩
theorem IxOv_yes (w : World) (base q cap : Nat) (H : List (Nat × Nat)) (x now : Nat) (ho : w.ownsRow base 59 2 (.slice (some ⟨q, 0, none⟩) H.length cap) H.length (pcl H)) (hl : H.length ≤ 1000000) (hc : w.cell? ⟨x, 0, none⟩ = some (.int .i64 (now : Nat))) (hn : now ≤ 1000000) (hb : ∀ j, j < H.length → p2 H j ≤ 1000000) (i : Nat) (hi : i < H.length) (hp : ovAt now H i = true) (hno : ∀ j, j < i → ovAt now H j = false) :
    Calls Try.prog 42 #[.slice (some ⟨q, 0, none⟩) H.length cap, .func (.func 36) #[.pointer (some ⟨x, 0, none⟩)] #[]] w (Told (.int .i64 (i : Nat)) w) := by
  have HN := Lib.hid hno
  have HP := Lib.hid hp
  have HO := Lib.hid ho
  have HC := Lib.hid hc
  have HB := Lib.hid hb
  clear hc hb
  clear hno ho hp
  go_enter Try.func42, Try.ntmps42
  go_wp2_with fail
  go_loopw [5, 8] (fun _ v wr => ∃ k : Nat, k ≤ i ∧ v = .int .i64 k ∧ Upto NoS w wr) (fun _ v _ => H.length - (intOf v).toNat)
  case atStart => exact ⟨0, by omega, rfl, Upto.refl _ _⟩
  case round =>
    obtain ⟨k, hk, rfl, hu⟩ := hrel
    have hlt : k < H.length := by omega
    have s0 := hu.keep (own_pcl HO.out k hlt).1 id
    have s1 := hu.keep (own_pcl HO.out k hlt).2 id
    by_cases hki : k < i
    · go_wp2_with (go_at_call 36; refine (over_any _ x now _ _ false (hu.keep HC.out id) hn (HB.out k hlt) (HN.out k hki)).mono ?_; rintro e w1 ⟨rfl, hu1⟩)
      go_roundw
      case rel => exact ⟨k + 1, by omega, by go_num, hu.trans hu1⟩
      case measure => simp [intOf]; omega
    · obtain rfl : k = i := by omega
      go_wp2_with (go_at_call 36; refine (over_any _ x now _ _ true (hu.keep HC.out id) hn (HB.out k hlt) HP.out).mono ?_; rintro e w1 ⟨rfl, hu1⟩)
      go_ret
      exact ⟨rfl, hu.trans hu1⟩

theorem IxCl_no (w : World) (base q cap : Nat) (H : List (Nat × Nat)) (B : Nat) (s : Int) (ho : w.ownsRow base 59 2 (.slice (some ⟨q, 0, none⟩) H.length cap) H.length (pcl H)) (hl : H.length ≤ 1000000) (hc : w.cell? ⟨B, 0, none⟩ = some (.int .i64 s)) (hno : ∀ j, j < H.length → hsAt s H j = false) :
    Calls Try.prog 42 #[.slice (some ⟨q, 0, none⟩) H.length cap, .func (.func 39) #[] #[.pointer (some ⟨B, 0, none⟩)]] w (Told (.int .i64 (-1)) w) := by
  have HN := Lib.hid hno
  have HO := Lib.hid ho
  have HC := Lib.hid hc
  clear hc
  clear hno ho
  go_enter Try.func42, Try.ntmps42
  go_wp2_with fail
  go_loopw [5, 8] (fun _ i wr => ∃ k : Nat, k ≤ H.length ∧ i = .int .i64 k ∧ Upto NoS w wr) (fun _ i _ => H.length - (intOf i).toNat)
  case atStart => exact ⟨0, by omega, rfl, Upto.refl _ _⟩
  case round =>
    obtain ⟨k, hk, rfl, hu⟩ := hrel
    by_cases hlt : k < H.length
    · have s0 := hu.keep (own_pcl HO.out k hlt).1 id
      have s1 := hu.keep (own_pcl HO.out k hlt).2 id
      go_wp2_with (go_at_call 39; refine (clo_any _ B _ _ s false (hu.keep HC.out id) (HN.out k hlt)).mono ?_; rintro e w1 ⟨rfl, hu1⟩)
      go_roundw
      case rel => exact ⟨k + 1, by omega, by go_num, hu.trans hu1⟩
      case measure => simp [intOf]; omega
    · go_wp2
      go_ret
      exact ⟨rfl, hu⟩
theorem IxCl_yes (w : World) (base q cap : Nat) (H : List (Nat × Nat)) (B : Nat) (s : Int) (ho : w.ownsRow base 59 2 (.slice (some ⟨q, 0, none⟩) H.length cap) H.length (pcl H)) (hl : H.length ≤ 1000000) (hc : w.cell? ⟨B, 0, none⟩ = some (.int .i64 s)) (i : Nat) (hi : i < H.length) (hp : hsAt s H i = true) (hno : ∀ j, j < i → hsAt s H j = false) :
    Calls Try.prog 42 #[.slice (some ⟨q, 0, none⟩) H.length cap, .func (.func 39) #[] #[.pointer (some ⟨B, 0, none⟩)]] w (Told (.int .i64 (i : Nat)) w) := by
  have HN := Lib.hid hno
  have HP := Lib.hid hp
  have HO := Lib.hid ho
  have HC := Lib.hid hc
  clear hc
  clear hno ho hp
  go_enter Try.func42, Try.ntmps42
  go_wp2_with fail
  go_loopw [5, 8] (fun _ v wr => ∃ k : Nat, k ≤ i ∧ v = .int .i64 k ∧ Upto NoS w wr) (fun _ v _ => H.length - (intOf v).toNat)
  case atStart => exact ⟨0, by omega, rfl, Upto.refl _ _⟩
  case round =>
    obtain ⟨k, hk, rfl, hu⟩ := hrel
    have hlt : k < H.length := by omega
    have s0 := hu.keep (own_pcl HO.out k hlt).1 id
    have s1 := hu.keep (own_pcl HO.out k hlt).2 id
    by_cases hki : k < i
    · go_wp2_with (go_at_call 39; refine (clo_any _ B _ _ s false (hu.keep HC.out id) (HN.out k hki)).mono ?_; rintro e w1 ⟨rfl, hu1⟩)
      go_roundw
      case rel => exact ⟨k + 1, by omega, by go_num, hu.trans hu1⟩
      case measure => simp [intOf]; omega
    · obtain rfl : k = i := by omega
      go_wp2_with (go_at_call 39; refine (clo_any _ B _ _ s true (hu.keep HC.out id) HP.out).mono ?_; rintro e w1 ⟨rfl, hu1⟩)
      go_ret
      exact ⟨rfl, hu.trans hu1⟩

/-- slices.ContainsFunc at what waits, with Defer's closure. -/
theorem ContCl_any (w : World) (base : Nat) (v : Value) (H : List (Nat × Nat)) (B : Nat) (s : Int) (q : Bool) (ho : w.ownsRow base 59 2 v H.length (pcl H)) (hl : H.length ≤ 1000000) (hc : w.cell? ⟨B, 0, none⟩ = some (.int .i64 s)) (hq : (∃ j, j < H.length ∧ hsAt s H j = true) ↔ q = true) :
    Calls Try.prog 38 #[v, .func (.func 39) #[] #[.pointer (some ⟨B, 0, none⟩)]] w (Told (.bool q) w) := by
  by_cases h0 : H.length = 0
  · obtain ⟨a, c, rfl, _⟩ := own_slice ho
    have hqf : q = false := by
      cases q
      · rfl
      · obtain ⟨j, hj, _⟩ := hq.2 rfl; omega
    subst hqf
    rw [h0]
    clear hq ho hc
    go_enter Try.func38, Try.ntmps38
    go_wp2_with (go_at_call 42; refine (Ix_nil _ _ _ _).mono ?_; rintro e w1 ⟨rfl, hu1⟩)
    go_ret
    exact ⟨rfl, hu1⟩
  · obtain ⟨g, cap, rfl, _, _⟩ := own_form ho (by omega)
    cases q
    · have hno : ∀ j, j < H.length → hsAt s H j = false := fun j hj => by
        cases hb : hsAt s H j
        · rfl
        · have := hq.1 ⟨j, hj, hb⟩; cases this
      have HC := Lib.hid hc
      have HN := Lib.hid hno
      clear hq hc hno
      go_enter Try.func38, Try.ntmps38
      go_wp2_with (go_at_call 42; refine (IxCl_no _ _ _ _ _ B s ho hl HC.out HN.out).mono ?_; rintro e w1 ⟨rfl, hu1⟩)
      go_ret
      exact ⟨rfl, hu1⟩
    · obtain ⟨i, hi, hp, hno⟩ := first_of (hq.2 rfl)
      have HC := Lib.hid hc
      have HN := Lib.hid hno
      have HP := Lib.hid hp
      clear hq hc hno hp
      go_enter Try.func38, Try.ntmps38
      go_wp2_with (go_at_call 42; refine (IxCl_yes _ _ _ _ _ B s ho hl HC.out i hi HP.out HN.out).mono ?_; rintro e w1 ⟨rfl, hu1⟩)
      go_ret
      exact ⟨rfl, hu1⟩
theorem ContCl_yes (w : World) (base : Nat) (v : Value) (H : List (Nat × Nat)) (B : Nat) (s : Int) (ho : w.ownsRow base 59 2 v H.length (pcl H)) (hl : H.length ≤ 1000000) (hc : w.cell? ⟨B, 0, none⟩ = some (.int .i64 s)) (hq : ∃ j, j < H.length ∧ hsAt s H j = true) :
    Calls Try.prog 38 #[v, .func (.func 39) #[] #[.pointer (some ⟨B, 0, none⟩)]] w (Told (.bool true) w) :=
  ContCl_any w base v H B s true ho hl hc ⟨fun _ => rfl, fun _ => hq⟩
end Go.Proofs.Ytmmhjibgmpdjoaa
