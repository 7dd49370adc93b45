/- Epochs' over, the closure of Defer, and slices.IndexFunc at what waits, walked. -/
import Derived.Test.YtmmhjibgmpdjoaaWalkA
namespace Go.Proofs.Ytmmhjibgmpdjoaa
open Go Go.RowKit Go.Deep Md

theorem over_any (w : World) (x now a b : Nat) (q : Bool) (hc : w.cell? ⟨x, 0, none⟩ = some (.int .i64 (now : Nat))) (hn : now ≤ 1000000) (hb : b ≤ 1000000) (hq : decide (b + 2 ≤ now) = q) :
    Calls Try.prog 36 #[.pointer (some ⟨x, 0, none⟩), .agg #[.int .i64 (a : Nat), .int .i64 (b : Nat)]] w (Told (.bool q) w) := by
  have h0 := keep_alloc hc (.cells #[.int .i64 (a : Nat), .int .i64 (b : Nat)] 59)
  have h1 := new_1 w #[.int .i64 (a : Nat), .int .i64 (b : Nat)] 59 1 (.int .i64 (b : Nat)) rfl
  have hw : IntKind.i64.wrap ((now : Int) - 2) = (now : Int) - 2 := IntWalk.i64_in _ (by omega)
  cases q
  · have hd : decide ((b : Int) ≤ (now : Int) - 2) = false := by have := of_decide_eq_false hq; exact decide_eq_false (by omega)
    clear hq
    go_enter Try.func36, Try.ntmps36
    go_wp2_with fail
    go_quiet (fail)
    go_wp2
    go_ret
    exact ⟨rfl, ((Upto.refl NoS w).alloc _).drewN _⟩
  · have hd : decide ((b : Int) ≤ (now : Int) - 2) = true := by have := of_decide_eq_true hq; exact decide_eq_true (by omega)
    clear hq
    go_enter Try.func36, Try.ntmps36
    go_wp2_with fail
    go_quiet (fail)
    go_wp2
    go_ret
    exact ⟨rfl, ((Upto.refl NoS w).alloc _).drewN _⟩
theorem clo_any (w : World) (B a b : Nat) (s : Int) (q : Bool) (hc : w.cell? ⟨B, 0, none⟩ = some (.int .i64 s)) (hq : ((a : Int) == s) = q) :
    Calls Try.prog 39 #[.agg #[.int .i64 (a : Nat), .int .i64 (b : Nat)], .pointer (some ⟨B, 0, none⟩)] w (Told (.bool q) w) := by
  have h0 := keep_alloc hc (.cells #[.int .i64 (a : Nat), .int .i64 (b : Nat)] 59)
  have h1 := new_1 w #[.int .i64 (a : Nat), .int .i64 (b : Nat)] 59 0 (.int .i64 (a : Nat)) rfl
  go_enter Try.func39, Try.ntmps39
  go_wp2_with fail
  go_ret
  exact ⟨rfl, (Upto.refl NoS w).alloc _⟩
end Go.Proofs.Ytmmhjibgmpdjoaa
