/- Endpoints and rows compared. -/
import Derived.Test.YtfiblchdfacdiaaWalkC
import Derived.Laws.StructEq
namespace Go.Proofs.Ytfiblchdfacdiaa
open Go Go.RowKit Go.Deep Go.Maps

theorem in26 (w : World) (d a b c e : Nat) : (Op.equalIn (d + 2) 26 (ev a b) (ev c e)).run Try.prog w = .ok (a == c && b == e) w := by
  have u23 := Try.underlying23
  have u24 := Try.underlying24
  have a23 := Try.isAgg23
  have z23 := Try.sizeOf23
  have a24 := Try.isAgg24
  have z24 := Try.sizeOf24
  have hS : Try.prog.underlying 26 = some (.struct (Try.prog.fieldsOf 26)) := by kernel_rfl
  have hp : Try.prog.stoodInHeld 26 = false := by kernel_rfl
  rw [show d + 2 = (d + 1) + 1 from rfl, run_equalIn_agg w (d + 1) 26 _ _ hS hp]
  simp only [Program.fieldsOf, Try.underlying26]
  go_simp
  by_cases h1 : a = c
  · subst h1
    by_cases h2 : b = e
    · subst h2; simp
    · have : ¬ (b : Int) = (e : Int) := by omega
      simp [h2, this]
  · have : ¬ (a : Int) = (c : Int) := by omega
    simp [h1, this]
theorem eq26 (w : World) (a b c e : Nat) : (binOp .eql 26 (ev a b) (ev c e)).run Try.prog w = .ok (.bool (a == c && b == e)) w := by
  rw [run_eql_struct, show (10000 : Nat) = 9998 + 2 from rfl, in26]
  rfl
theorem neq26 (w : World) (a b c e : Nat) : (binOp .neq 26 (ev a b) (ev c e)).run Try.prog w = .ok (.bool (!(a == c && b == e))) w := by
  rw [run_neq_struct, show (10000 : Nat) = 9998 + 2 from rfl, in26]
  rfl
theorem guard26e (w : World) (x y : Operand) (a b c e : Nat) : (eqGuard .eql 26 x y (ev a b) (ev c e)).run Try.prog w = .ok () w := run_eqGuard_agg w .eql 26 x y _ _ (by kernel_rfl)
theorem guard26n (w : World) (x y : Operand) (a b c e : Nat) : (eqGuard .neq 26 x y (ev a b) (ev c e)).run Try.prog w = .ok () w := run_eqGuard_agg w .neq 26 x y _ _ (by kernel_rfl)
end Go.Proofs.Ytfiblchdfacdiaa
