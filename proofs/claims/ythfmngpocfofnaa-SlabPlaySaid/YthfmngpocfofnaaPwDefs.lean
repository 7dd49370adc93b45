/- SlabPlay's switch, taken out by its number; what an act may make of the state. -/
import Derived.Test.YthfmngpocfofnaaPlayX
import Derived.Test.YthfmngpocfofnaaSwDefs
import Derived.Deep.AppendLies
import Derived.IntWalk
namespace Go.Proofs.Ythfmngpocfofnaa
open Go Md
noncomputable def playSwitch : Code := (Try.f5.body.bind (findBlock 2)).getD .skip
/-- What an act may make of the state and of the handles. -/
structure Next (st : St) (H : List (Nat × Nat)) (st' : St) (H' : List (Nat × Nat)) : Prop where
  len : st'.length = st.length
  many : H'.length ≤ H.length + 1
  each : (∀ j, j < H.length → (H.getD j (0, 0)).1 < 256 ∧ (H.getD j (0, 0)).2 < 4294967296) → ∀ j, j < H'.length → (H'.getD j (0, 0)).1 < 256 ∧ (H'.getD j (0, 0)).2 < 4294967296
theorem pair_one' (k k' : IntKind) (x y : Int) : ∀ u ∈ [Value.int k x, Value.int k' y], u.oneCell' = true := by
  intro u hu; simp at hu; rcases hu with rfl | rfl <;> rfl
theorem Next.leave (st : St) (H : List (Nat × Nat)) (s t : Int) {z : Nat} (_hz : z ≤ 2) : Next st H (leaveSt st s t z) H := ⟨leaveSt_length _ _ _ _, by omega, id⟩
theorem Next.free (st : St) (H : List (Nat × Nat)) (a : Int) : Next st H (freeSt st a) H := ⟨freeSt_length _ _, by omega, id⟩
theorem Next.take (st : St) (H : List (Nat × Nat)) {p q : Nat} (hp : p < 256) (hq : q < 4294967296) : Next st H (takeSt st) (H ++ [(p, q)]) := by
  refine ⟨takeSt_length _, by simp, fun h j hj => ?_⟩
  rw [Md.getD_snoc _ _ _ _ (by simpa using hj)]
  split
  · exact ⟨hp, hq⟩
  · exact h j (by simp at hj; omega)
end Go.Proofs.Ythfmngpocfofnaa
