/- What the law SlabPlay keeps in memory: the slab, the reference's, the handles. -/
import Derived.Test.YthfmngpocfofnaaRefF
namespace Go.Proofs.Ythfmngpocfofnaa
open Go Go.RowKit Go.Deep Md

theorem New_ref_err (w : World) (n : Int) (h : n < 1 ∨ 256 < n) : Calls Try.prog 15 #[.int .i64 n] w fun e w' => e = .returned (.tuple #[.pointer none, .int .i64 2]) ∧ w = w' := by
  rcases h with h | h
  · go_enter Try.func15, Try.ntmps15
    go_wp2
    go_ret2
    exact ⟨rfl, rfl⟩
  · have h' : ¬ n < 1 := by omega
    go_enter Try.func15, Try.ntmps15
    go_wp2
    go_ret2
    exact ⟨rfl, rfl⟩

/-- The two slabs, of one and the same state, and the handles; blocks in the order in which they were made. -/
structure PlayAt (w0 w : World) (b r g cap : Nat) (vh : Value) (st : St) (H : List (Nat × Nat)) : Prop where
  slab : SlabAt w b st
  ref : RefAt w r g cap st
  had : w.ownsRow (g + 1) 31 2 vh H.length (hcl H)
  bel : Below w0.heap.size w0 w
  hw : w0.heap.size ≤ b
  hb : b < r
  hr : r < g

namespace PlayAt
variable {w0 w w' : World} {b r g cap : Nat} {vh : Value} {st st' : St} {H : List (Nat × Nat)}
theorem upto (h : PlayAt w0 w b r g cap vh st H) (hu : Upto NoS w w') : PlayAt w0 w' b r g cap vh st H :=
  ⟨h.slab.upto hu id, h.ref.upto hu id id, hu.own h.had (fun _ _ => id), h.bel.trans (hu.below (by have := h.bel.size; omega) (fun _ h => h.elim)), h.hw, h.hb, h.hr⟩
theorem alloc (h : PlayAt w0 w b r g cap vh st H) (o : Obj) : PlayAt w0 (w.alloc o) b r g cap vh st H := h.upto ((Upto.refl _ _).alloc o)
theorem drew (h : PlayAt w0 w b r g cap vh st H) : PlayAt w0 w.drew b r g cap vh st H := h.upto (Upto.refl _ _).drew
/-- Both have gone the same way. -/
theorem turned {w1 : World} (h : PlayAt w0 w b r g cap vh st H) (hs : SlabAt w1 b st') (hu1 : Upto (· = b) w w1) (ht : RefAt w' r g cap st') (hu2 : Upto (· = g) w1 w') : PlayAt w0 w' b r g cap vh st' H := by
  have h1 := h.hw; have h2 := h.hb; have h3 := h.hr; have h4 := h.bel.size
  have o1 := hu1.own h.had (own_ne h.had (by omega))
  exact ⟨hs.upto hu2 (by omega), ht, hu2.own o1 (own_ne o1 (by omega)),
    (h.bel.trans (hu1.below (by omega) (fun k hk => by omega))).trans (hu2.below (by have := hu1.size; omega) (fun k hk => by omega)), h.hw, h.hb, h.hr⟩
/-- Between the two calls: the reference's is as it was. -/
theorem refMid {w1 : World} (h : PlayAt w0 w b r g cap vh st H) (hu1 : Upto (· = b) w w1) : RefAt w1 r g cap st :=
  h.ref.upto hu1 (by have := h.hb; omega) (by have := h.hb; have := h.hr; omega)
end PlayAt
end Go.Proofs.Ythfmngpocfofnaa
