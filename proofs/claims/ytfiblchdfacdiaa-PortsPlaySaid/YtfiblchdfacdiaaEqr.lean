/- Rows compared with themselves. -/
import Derived.Test.YtfiblchdfacdiaaEqs
namespace Go.Proofs.Ytfiblchdfacdiaa
open Go Go.RowKit Go.Deep Go.Maps

set_option maxHeartbeats 1000000 in
theorem in42 (w : World) (d : Nat) (r : Rw) : (Op.equalIn (d + 3) 42 (rwV r) (rwV r)).run Try.prog w = .ok true w := by
  have u3 := Try.underlying3
  have u5 := Try.underlying5
  have a3 := Try.isAgg3
  have z3 := Try.sizeOf3
  have a5 := Try.isAgg5
  have z5 := Try.sizeOf5
  have a26 := Try.isAgg26
  have z26 := Try.sizeOf26
  have hS : Try.prog.underlying 42 = some (.struct (Try.prog.fieldsOf 42)) := by kernel_rfl
  have hp : Try.prog.stoodInHeld 42 = false := by kernel_rfl
  have h1 := in26 w d r.oa r.ob r.oa r.ob
  have h2 := in26 w d r.ia r.ib r.ia r.ib
  simp only [beq_self_eq_true, Bool.and_self] at h1 h2
  rw [show d + 3 = (d + 2) + 1 from rfl, run_equalIn_agg w (d + 2) 42 _ _ hS hp]
  simp only [Program.fieldsOf, Try.underlying42]
  go_simp
theorem neq42 (w : World) (r : Rw) : (binOp .neq 42 (rwV r) (rwV r)).run Try.prog w = .ok (.bool false) w := by
  rw [run_neq_struct, show (10000 : Nat) = 9997 + 3 from rfl, in42]
  rfl
theorem guard42 (w : World) (x y : Operand) (r : Rw) : (eqGuard .neq 42 x y (rwV r) (rwV r)).run Try.prog w = .ok () w := run_eqGuard_agg w .neq 42 x y _ _ (by kernel_rfl)
end Go.Proofs.Ytfiblchdfacdiaa
