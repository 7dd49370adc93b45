/- Handles in a row, as cells. -/
import Derived.Test.YtgoaokgoenihlaaInfo
namespace Go.Proofs.Ytgoaokgoenihlaa
open Go Go.RowKit Go.Deep Go.Maps

/-- A handle's cells. -/
abbrev hcs (h : Hn) : List Value := [.int .i64 h.s, .int .u32 (h.g : Nat)]
def hcl (L : List Hn) : List Value := L.flatMap hcs
theorem hcl_snoc (L : List Hn) (h : Hn) : hcl (L ++ [h]) = hcl L ++ hcs h := by simp [hcl]
theorem hcs_one (t : Hn) : ∀ u ∈ hcs t, u.oneCell' = true := by
  intro u hu; simp at hu; rcases hu with rfl | rfl <;> rfl
theorem Try.info31 : (Try.prog.info? 31).map (fun i => (i.zero, i.size, i.bytes)) = some (some (.agg #[.int .i64 0, .int .u32 0]), 2, 16) := by kernel_rfl
end Go.Proofs.Ytgoaokgoenihlaa
