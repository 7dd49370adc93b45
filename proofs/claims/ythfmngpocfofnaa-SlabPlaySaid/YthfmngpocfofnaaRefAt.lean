/- The reference's slab in memory: a header that leads to a row of slots. -/
import Derived.Test.YthfmngpocfofnaaActs
namespace Go.Proofs.Ythfmngpocfofnaa
open Go Go.RowKit Go.Deep Md

/-- The cells of the reference's slots: the same shape as the handles' cells. -/
structure RefAt (w : World) (r g cap : Nat) (st : St) : Prop where
  head : w.cell? ⟨r, 0, none⟩ = some (.slice (some ⟨g, 0, none⟩) st.length cap)
  own : w.ownsRow g 66 2 (.slice (some ⟨g, 0, none⟩) st.length cap) st.length (hcl st)
  ne : r ≠ g
  ok : Ok st
  pos : 0 < st.length

namespace RefAt
variable {w w' : World} {r g cap : Nat} {st : St}
theorem lt (h : RefAt w r g cap st) : g < w.heap.size := (h.own.lt g rfl).2
theorem rlt (h : RefAt w r g cap st) : r < w.heap.size := World.block_lt_of_cell? w _ h.head
theorem len (h : RefAt w r g cap st) : st.length ≤ 256 := h.ok.1
theorem cells (h : RefAt w r g cap st) {i : Nat} (hi : i < st.length) : w.cell? ⟨g, i * 2, none⟩ = some (.int .i64 (stateOf st i : Nat)) ∧ w.cell? ⟨g, i * 2 + 1, none⟩ = some (.int .u32 (genOf st i : Nat)) := by
  have c1 := h.own.cells (g := g) rfl (i * 2) _ (hcl_at st i hi).1
  have c2 := h.own.cells (g := g) rfl (i * 2 + 1) _ (hcl_at st i hi).2
  rw [Addr.add_lit, Nat.zero_add] at c1 c2
  have e1 : (st.getD i (0, 0)).1 = stateOf st i := by simp [stateOf, hi]
  have e2 : (st.getD i (0, 0)).2 = genOf st i := by simp [genOf, hi]
  rw [e1] at c1; rw [e2] at c2
  exact ⟨c1, c2⟩
theorem upto {S : Nat → Prop} (h : RefAt w r g cap st) (hu : Upto S w w') (hr : ¬ S r) (hg : ¬ S g) : RefAt w' r g cap st :=
  ⟨hu.keep h.head hr, hu.own h.own (fun k hk => by simp [Value.ownBlock] at hk; subst hk; exact hg), h.ne, h.ok, h.pos⟩
theorem alloc (h : RefAt w r g cap st) (o : Obj) : RefAt (w.alloc o) r g cap st := h.upto (S := NoS) ((Upto.refl _ _).alloc o) id id
theorem drew (h : RefAt w r g cap st) : RefAt w.drew r g cap st := h.upto (S := NoS) (Upto.refl _ _).drew id id
theorem drewN (h : RefAt w r g cap st) (n : Nat) : RefAt (w.drewN n) r g cap st := h.upto (S := NoS) ((Upto.refl _ _).drewN n) id id
end RefAt

theorem State_ref (w : World) (r g cap : Nat) (st : St) (slot : Int) (h : RefAt w r g cap st) (h1 : -9223372036854775808 ≤ slot) (h2 : slot ≤ 9223372036854775807) :
    Calls Try.prog 22 #[.pointer (some ⟨r, 0, none⟩), .int .i64 slot] w fun e w' => e = .returned (.int .i64 (stateI st slot)) ∧ w = w' := by
  have hc := h.head
  by_cases g1 : slot < 0
  · have hr : stateI st slot = -1 := by unfold stateI; rw [if_neg (by omega)]
    rw [hr]
    go_enter Try.func22, Try.ntmps22
    go_wp2
    go_ret
    exact ⟨rfl, rfl⟩
  · obtain ⟨n, rfl⟩ := Int.eq_ofNat_of_zero_le (by omega : 0 ≤ slot)
    by_cases g2 : n < st.length
    · have hr : stateI st n = (stateOf st n : Nat) := by unfold stateI; rw [if_pos (by omega)]; simp
      rw [hr]
      have hs := (h.cells (i := n) g2).1
      go_enter Try.func22, Try.ntmps22
      go_wp2
      go_ret
      exact ⟨rfl, rfl⟩
    · have hr : stateI st n = -1 := by unfold stateI; rw [if_neg (by omega)]
      rw [hr]
      go_enter Try.func22, Try.ntmps22
      go_wp2
      go_ret
      exact ⟨rfl, rfl⟩
end Go.Proofs.Ythfmngpocfofnaa
