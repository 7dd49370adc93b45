/- The acts that come in, opened to cells. -/
import Derived.Test.YthfmngpocfofnaaActs
import Derived.Deep.Slices
import Derived.ChangeSame
import Derived.ProofKit
import Derived.OpenShut
namespace Go.Proofs.Ythfmngpocfofnaa
open Go Go.RowKit Go.ChangeShapes Go.WideShapes Go.ChangeAt Go.Deep

section
variable {H : Type} {enc : TypeId × Value → H} {w : World} {base : Nat} {spare : Nat → Bool} {held : Bool}
/-- One act, read. -/
theorem open_act {fuel : Nat} {cs : List Value} {x : DataW H × List MemPlace} (h : DataW.trod enc Try.prog w base spare held fuel 41 cs = some x) :
    ∃ y : ActV, y.ok ∧ cs = [.int .u8 (y.kind : Nat), .int .u8 (y.at_ : Nat), .int .i64 y.slot, .int .u32 y.gen, .int .i64 y.raw] := by
  obtain ⟨xs, n, _, hx, hl, hlen, hf⟩ := DataW.trod_struct Try.underlying41 h
  have hl5 : cs.length = 5 := hl.trans (by kernel_rfl)
  match cs, hl5, xs, hlen with
  | [c0, c1, c2, c3, c4], _, [x0, x1, x2, x3], _ =>
    have k5 : Try.prog.cellsOf 5 = 1 := by kernel_rfl
    have k3 : Try.prog.cellsOf 3 = 1 := by kernel_rfl
    have k31 : Try.prog.cellsOf 31 = 2 := by kernel_rfl
    have k29 : Try.prog.cellsOf 29 = 1 := by kernel_rfl
    have h0 : DataW.trod enc Try.prog w base spare held n 5 [c0] = some x0 := by have this : DataW.trod enc Try.prog w base spare held n 5 (List.take (Try.prog.cellsOf 5) (List.drop 0 [c0, c1, c2, c3, c4])) = some x0 := hf 0 _ rfl; rw [k5] at this; exact this
    have h1 : DataW.trod enc Try.prog w base spare held n 5 [c1] = some x1 := by have this : DataW.trod enc Try.prog w base spare held n 5 (List.take (Try.prog.cellsOf 5) (List.drop 1 [c0, c1, c2, c3, c4])) = some x1 := hf 1 _ rfl; rw [k5] at this; exact this
    have h2 : DataW.trod enc Try.prog w base spare held n 31 [c2, c3] = some x2 := by have this : DataW.trod enc Try.prog w base spare held n 31 (List.take (Try.prog.cellsOf 31) (List.drop 2 [c0, c1, c2, c3, c4])) = some x2 := hf 2 _ rfl; rw [k31] at this; exact this
    have h3 : DataW.trod enc Try.prog w base spare held n 3 [c4] = some x3 := by have this : DataW.trod enc Try.prog w base spare held n 3 (List.take (Try.prog.cellsOf 3) (List.drop 4 [c0, c1, c2, c3, c4])) = some x3 := hf 3 _ rfl; rw [k3] at this; exact this
    obtain ⟨n0, e0, _, g0⟩ := DataW.trod_int Try.underlying5 (x := x0) h0
    obtain ⟨n1, e1, _, g1⟩ := DataW.trod_int Try.underlying5 (x := x1) h1
    obtain ⟨ys, m, _, _, _, hlen2, hf2⟩ := DataW.trod_struct Try.underlying31 (x := x2) h2
    obtain ⟨n4, e4, _, g4⟩ := DataW.trod_int Try.underlying3 (x := x3) h3
    match ys, hlen2 with
    | [y0, y1], _ =>
      have j0 : DataW.trod enc Try.prog w base spare held m 3 [c2] = some y0 := by have this : DataW.trod enc Try.prog w base spare held m 3 (List.take (Try.prog.cellsOf 3) (List.drop 0 [c2, c3])) = some y0 := hf2 0 _ rfl; rw [k3] at this; exact this
      have j1 : DataW.trod enc Try.prog w base spare held m 29 [c3] = some y1 := by have this : DataW.trod enc Try.prog w base spare held m 29 (List.take (Try.prog.cellsOf 29) (List.drop 1 [c2, c3])) = some y1 := hf2 1 _ rfl; rw [k29] at this; exact this
      obtain ⟨n2, e2, _, g2⟩ := DataW.trod_int Try.underlying3 (x := y0) j0
      obtain ⟨n3, e3, _, g3⟩ := DataW.trod_int Try.underlying29 (x := y1) j1
      simp at e0 e1 e2 e3 e4
      subst e0; subst e1; subst e2; subst e3; subst e4
      have b0 := bounds_u8 g0
      have b1 := bounds_u8 g1
      have b2 := bounds_i64 g2
      have b3 := bounds_u32 g3
      have b4 := bounds_i64 g4
      refine ⟨⟨n0.toNat, n1.toNat, n2, n3, n4⟩, ⟨by show n0.toNat < 256; omega, by show n1.toNat < 256; omega, ⟨by show _ ≤ n2; omega, by show n2 ≤ _; omega⟩, ⟨by show _ ≤ n3; omega, by show n3 < _; omega⟩, ⟨by show _ ≤ n4; omega, by show n4 ≤ _; omega⟩⟩, ?_⟩
      show _ = [Value.int .u8 ((n0.toNat : Nat) : Int), Value.int .u8 ((n1.toNat : Nat) : Int), _, _, _]
      rw [Int.toNat_of_nonneg (by omega), Int.toNat_of_nonneg (by omega)]

/-- The acts that come in. -/
theorem open_acts {fuel : Nat} {a : Option Addr} {len cap : Nat} {x : DataW H × List MemPlace} (h : DataW.trod enc Try.prog w base spare held fuel 38 [.slice a len cap] = some x) :
    len ≤ 9223372036854775807 ∧ ∃ z : Nat → ActV, ActsAt w a len z := by
  rcases open_slice Try.underlying38 h with ⟨hcs, _⟩ | ⟨p, l, c, m, n, D, Pl, hcs, hb, hl, hm, hmm, _, hi⟩
  · simp only [List.cons.injEq, Value.slice.injEq, and_true] at hcs
    obtain ⟨rfl, rfl, rfl⟩ := hcs
    exact ⟨by omega, fun _ => ⟨0, 0, 0, 0, 0⟩, fun k hk => by omega⟩
  · simp only [List.cons.injEq, Value.slice.injEq, and_true] at hcs
    obtain ⟨rfl, rfl, rfl⟩ := hcs
    refine ⟨by unfold maxLen at hm; omega, ?_⟩
    have k41 : Try.prog.cellsOf 41 = 5 := by kernel_rfl
    obtain ⟨b, off, spot⟩ := p
    have hlm : len ≤ m := by rw [hmm]; split <;> omega
    have all : ∀ k, ∃ y : ActV, k < len → y.ok ∧ ∃ b' off', some (⟨b, off, spot⟩ : Addr) = some ⟨b', off', none⟩ ∧ b' < w.heap.size ∧ ActAt w b' (off' + k * 5) y := by
      intro k
      by_cases hk : k < len
      · obtain ⟨cs, hc, ht⟩ := hi k (by omega)
        rw [k41] at hc
        obtain ⟨y, hy, rfl⟩ := open_act ht
        obtain ⟨_, hcl, hat⟩ := World.cells?_some hc
        refine ⟨y, fun _ => ⟨hy, ?_⟩⟩
        have c0 := hat 0 (by omega)
        have c1 := hat 1 (by omega)
        have c2 := hat 2 (by omega)
        have c3 := hat 3 (by omega)
        have c4 := hat 4 (by omega)
        have hspot : spot = none := by
          obtain ⟨cs2, hc2, ht2⟩ := hi 0 (by omega)
          obtain ⟨_, _, rfl⟩ := open_act ht2
          obtain ⟨_, _, hat2⟩ := World.cells?_some hc2
          have d0 := hat2 0 (by rw [k41]; omega)
          simpa [Addr.add] using World.cell?_spot d0
        subst hspot
        simp only [Addr.add_lit, Nat.add_zero] at c0 c1 c2 c3 c4
        exact ⟨b, off, rfl, World.block_lt_of_cell? w _ c0, c0, c1, c2, c3, c4⟩
      · exact ⟨⟨0, 0, 0, 0, 0⟩, fun h => absurd h hk⟩
    exact ⟨fun k => Classical.choose (all k), fun k hk => Classical.choose_spec (all k) hk⟩
end
end Go.Proofs.Ythfmngpocfofnaa
