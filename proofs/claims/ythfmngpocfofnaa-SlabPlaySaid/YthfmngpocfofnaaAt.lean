/- What it is that a slab, or the reference's, lies at a place in memory. -/
import Derived.Test.YthfmngpocfofnaaChecked
import Derived.Test.YthfmngpocfofnaaBase
import Derived.Test.YthfmngpocfofnaaModel
namespace Go.Proofs.Ythfmngpocfofnaa
open Go Go.RowKit Go.Deep Md

/-- The cells of a slab: of each slot how it is and its generation; how many there are; how many are how. -/
def slabF (st : St) (i : Nat) : Value :=
  if i < 512 then (if i % 2 = 0 then .int .i64 (stateOf st (i / 2) : Nat) else .int .u32 (genOf st (i / 2) : Nat))
  else if i = 512 then .int .i64 (st.length : Nat) else .int .i64 (cnt st (i - 513) : Nat)

structure SlabAt (w : World) (b : Nat) (st : St) : Prop where
  row : w.rowIs b 57 516 (slabF st)
  ok : Ok st
  pos : 0 < st.length

namespace SlabAt
variable {w w' : World} {b : Nat} {st : St}
theorem lt (h : SlabAt w b st) : b < w.heap.size := h.row.lt
theorem len (h : SlabAt w b st) : st.length ≤ 256 := h.ok.1
theorem cellState (h : SlabAt w b st) {i : Nat} (hi : i < 256) : w.cell? ⟨b, i * 2, none⟩ = some (.int .i64 (stateOf st i : Nat)) := by
  rw [h.row.cell (by omega)]; simp [slabF, show i * 2 < 512 from by omega]
theorem cellGen (h : SlabAt w b st) {i : Nat} (hi : i < 256) : w.cell? ⟨b, i * 2 + 1, none⟩ = some (.int .u32 (genOf st i : Nat)) := by
  rw [h.row.cell (by omega)]; simp [slabF, show i * 2 + 1 < 512 from by omega, show (i * 2 + 1) / 2 = i from by omega, show (i * 2 + 1) % 2 = 1 from by omega]
theorem cellSize (h : SlabAt w b st) : w.cell? ⟨b, 512, none⟩ = some (.int .i64 (st.length : Nat)) := by
  rw [h.row.cell (by omega)]; simp [slabF]
theorem cellCnt (h : SlabAt w b st) {k : Nat} (hk : k < 3) : w.cell? ⟨b, 513 + k, none⟩ = some (.int .i64 (cnt st k : Nat)) := by
  rw [h.row.cell (by omega)]; simp [slabF, show ¬ 513 + k < 512 from by omega, show ¬ 513 + k = 512 from by omega, show 513 + k - 513 = k from by omega]
theorem frozen (h : SlabAt w b st) (i : Nat) : w.frozen? ⟨b, i, none⟩ = false := h.row.frozen i
theorem upto {S : Nat → Prop} (h : SlabAt w b st) (hu : Upto S w w') (hb : ¬ S b) : SlabAt w' b st := ⟨hu.row h.row hb, h.ok, h.pos⟩
theorem drewN (h : SlabAt w b st) (n : Nat) : SlabAt (w.drewN n) b st := ⟨h.row, h.ok, h.pos⟩
theorem drew (h : SlabAt w b st) : SlabAt w.drew b st := ⟨h.row, h.ok, h.pos⟩
theorem alloc (h : SlabAt w b st) (o : Obj) : SlabAt (w.alloc o) b st := ⟨h.row.alloc o, h.ok, h.pos⟩
end SlabAt
end Go.Proofs.Ythfmngpocfofnaa
