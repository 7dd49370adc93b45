/- Track's and its reference's Run, walked. -/
import Derived.Test.YtmgipmpnejphoaaDoorWalkC
namespace Go.Proofs.YtmgipmpnejphoaaDoor
open Go Go.RowKit Go.Deep

/-- The state behind the first step and i more. -/
def rs (f : Int) (z : Nat → Bool × Nat) : Nat → Int
  | 0 => 1
  | i + 1 => nextI f (rs f z i) (z (i + 1)).1 (z (i + 1)).2
def runOk (f : Int) (z : Nat → Bool × Nat) (len : Nat) : Bool := decide (0 < len) && !(z 0).1 && okF f (z 0).2
def runSt (f : Int) (z : Nat → Bool × Nat) (len : Nat) : Int := if runOk f z len then rs f z (len - 1) else 0
abbrev runV (f : Int) (z : Nat → Bool × Nat) (len : Nat) : Value := .tuple #[.int .i64 (runSt f z len), .bool (runOk f z len)]

/-- Steps in memory. -/
def StepsAt (w : World) (a : Option Addr) (len : Nat) (z : Nat → Bool × Nat) : Prop :=
  ∀ k, k < len → (z k).2 < 256 ∧ ∃ b off, a = some ⟨b, off, none⟩ ∧ b < w.heap.size ∧ w.cell? ⟨b, off + k * 2, none⟩ = some (.bool (z k).1) ∧ w.cell? ⟨b, off + k * 2 + 1, none⟩ = some (.int .u8 ((z k).2 : Nat))
theorem StepsAt.upto {w w' : World} {a : Option Addr} {len : Nat} {z : Nat → Bool × Nat} (h : StepsAt w a len z) (hu : Upto NoS w w') : StepsAt w' a len z := by
  intro k hk
  obtain ⟨h1, b, off, ha, hb, c0, c1⟩ := h k hk
  exact ⟨h1, b, off, ha, Nat.lt_of_lt_of_le hb hu.size, hu.keep c0 id, hu.keep c1 id⟩
theorem StepsAt.less {w : World} {a : Option Addr} {len n : Nat} {z : Nat → Bool × Nat} (h : StepsAt w a len z) (hn : n ≤ len) : StepsAt w a n z := fun k hk => h k (by omega)

theorem Run_any (w : World) (f : Int) (a : Option Addr) (len cap : Nat) (z : Nat → Bool × Nat) (hT : Tab w) (hz : StepsAt w a len z) (hl : len ≤ cap) (hm : cap ≤ 9223372036854775807) :
    Calls Tryd.prog 8 #[.int .i64 f, .slice a len cap] w (Told (runV f z len) w) := by
  by_cases h0 : len = 0
  · subst h0
    rw [show runV f z 0 = .tuple #[.int .i64 0, .bool false] from by simp [runV, runSt, runOk]]
    go_enter Tryd.func8, Tryd.ntmps8
    go_wp2
    go_ret2
    exact ⟨rfl, Upto.refl _ _⟩
  · obtain ⟨hf0, b, off, rfl, hb, c0, c1⟩ := hz 0 (by omega)
    have hpos : 0 < len := by omega
    have hk0 : ((len : Int) == 0) = false := beq_eq_false_iff_ne.2 (by omega)
    rw [Nat.zero_mul, Nat.add_zero] at c0 c1
    cases hb0 : (z 0).1
    · cases hok : okF f (z 0).2
      · rw [show runV f z len = .tuple #[.int .i64 0, .bool false] from by simp [runV, runSt, runOk, hok]]
        rw [hb0] at c0
        go_enter Tryd.func8, Tryd.ntmps8
        go_wp2_with (go_at_call 17; refine (First_any _ _ _ hT hf0).mono ?_; rintro e w1 ⟨rfl, hu1⟩; rw [hok])
        go_ret2
        exact ⟨rfl, hu1⟩
      · have hv : runV f z len = .tuple #[.int .i64 (rs f z (len - 1)), .bool true] := by simp [runV, runSt, runOk, hok, hb0, hpos]
        rw [hv]
        clear hv
        rw [hb0] at c0
        by_cases hc : cap = 1
        · have hl1 : len = 1 := by omega
          subst hc
          go_enter Tryd.func8, Tryd.ntmps8
          go_wp2_with (go_at_call 17; refine (First_any _ _ _ hT hf0).mono ?_; rintro e w1 ⟨rfl, hu1⟩; rw [hok])
          go_loopw [6, 33] (fun st i wr => ∃ k : Nat, k ≤ len - 1 ∧ i = .int .i64 k ∧ st = .int .i64 (rs f z k) ∧ Upto NoS w wr)
            (fun _ i _ => len - (intOf i).toNat)
          case atStart => exact ⟨0, by omega, rfl, rfl, hu1⟩
          case round =>
            obtain ⟨k, hk, rfl, rfl, hu⟩ := hrel
            by_cases hlt : k < len - 1
            · omega
            · obtain rfl : k = len - 1 := by omega
              have hx : ((len - 1 : Nat) : Int) = (len : Int) - 1 := by omega
              go_wp2
              go_ret2
              exact ⟨rfl, hu⟩
        · have hc1 : 1 < cap := by omega
          go_enter Tryd.func8, Tryd.ntmps8
          go_wp2_with (go_at_call 17; refine (First_any _ _ _ hT hf0).mono ?_; rintro e w1 ⟨rfl, hu1⟩; rw [hok])
          go_loopw [6, 33] (fun st i wr => ∃ k : Nat, k ≤ len - 1 ∧ i = .int .i64 k ∧ st = .int .i64 (rs f z k) ∧ Upto NoS w wr)
            (fun _ i _ => len - (intOf i).toNat)
          case atStart => exact ⟨0, by omega, rfl, rfl, hu1⟩
          case round =>
            obtain ⟨k, hk, rfl, rfl, hu⟩ := hrel
            by_cases hlt : k < len - 1
            · obtain ⟨hf1, b', off', he, hb', d0, d1⟩ := hz (k + 1) (by omega)
              simp only [Option.some.injEq, Addr.mk.injEq, and_true] at he
              obtain ⟨rfl, rfl⟩ := he
              have e0 := hu.keep d0 id
              have e1 := hu.keep d1 id
              rw [show off + (k + 1) * 2 = off + 2 + k * 2 from by omega] at e0 e1
              have hT1 := (hT.upto hu).alloc (.cells #[.bool (z (k + 1)).1, .int .u8 ((z (k + 1)).2 : Nat)] 27)
              have hu3 := hu.alloc (.cells #[.bool (z (k + 1)).1, .int .u8 ((z (k + 1)).2 : Nat)] 27)
              clear d0 d1
              go_wp2_with (go_at_call 15; refine (Next_any _ _ _ _ _ hT1 hf1).mono ?_; rintro e w2 ⟨rfl, hu2⟩)
              go_roundw
              case rel => exact ⟨k + 1, by omega, by go_num, rfl, hu3.trans hu2⟩
              case measure => simp [intOf]; omega
            · obtain rfl : k = len - 1 := by omega
              have hx : ((len - 1 : Nat) : Int) = (len : Int) - 1 := by omega
              go_wp2
              go_ret2
              exact ⟨rfl, hu⟩
    · rw [show runV f z len = .tuple #[.int .i64 0, .bool false] from by simp [runV, runSt, runOk, hb0]]
      rw [hb0] at c0
      go_enter Tryd.func8, Tryd.ntmps8
      go_wp2
      go_ret2
      exact ⟨rfl, Upto.refl _ _⟩
end Go.Proofs.YtmgipmpnejphoaaDoor
