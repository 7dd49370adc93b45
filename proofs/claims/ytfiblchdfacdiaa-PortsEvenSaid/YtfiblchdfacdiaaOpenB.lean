/- Bytes that come in, opened to cells. -/
import Derived.Test.YtfiblchdfacdiaaOpen
namespace Go.Proofs.Ytfiblchdfacdiaa
open Go Go.RowKit Go.ChangeShapes Go.WideShapes Go.ChangeAt Go.Deep
/-- Numbers of eight bits that come in. -/
def BytesAt (w : World) (a : Option Addr) (len : Nat) (z : Nat → Nat) : Prop :=
  ∀ j, j < len → z j < 256 ∧ ∃ bo off, a = some ⟨bo, off, none⟩ ∧ bo < w.heap.size ∧ w.cell? ⟨bo, off + j, none⟩ = some (.int .u8 (z j : Nat))
section
variable {H : Type} {enc : TypeId × Value → H} {w : World} {base : Nat} {spare : Nat → Bool} {held : Bool}
theorem open_u8 {fuel : Nat} {cs : List Value} {x : DataW H × List MemPlace} (h : DataW.trod enc Try.prog w base spare held fuel 5 cs = some x) :
    ∃ y : Nat, y < 256 ∧ cs = [.int .u8 (y : Nat)] := by
  obtain ⟨n0, e0, _, g0⟩ := DataW.trod_int Try.underlying5 h
  have b0 := bounds_u8' g0
  obtain ⟨m0, rfl⟩ := Int.eq_ofNat_of_zero_le b0.1
  exact ⟨m0, by omega, e0⟩
theorem open_bytes {fuel : Nat} {a : Option Addr} {len cap : Nat} {x : DataW H × List MemPlace} (h : DataW.trod enc Try.prog w base spare held fuel 46 [.slice a len cap] = some x) :
    len ≤ 9223372036854775807 ∧ ∃ z : Nat → Nat, BytesAt w a len z := by
  rcases open_slice Try.underlying46 h with ⟨hcs, _⟩ | ⟨p, l, c, m, n, D, Pl, hcs, hb, hl, hm, hmm, _, hi⟩
  · simp only [List.cons.injEq, Value.slice.injEq, and_true] at hcs
    obtain ⟨rfl, rfl, rfl⟩ := hcs
    exact ⟨by omega, fun _ => 0, fun k hk => by omega⟩
  · simp only [List.cons.injEq, Value.slice.injEq, and_true] at hcs
    obtain ⟨rfl, rfl, rfl⟩ := hcs
    refine ⟨by unfold maxLen at hm; omega, ?_⟩
    obtain ⟨b, off, spot⟩ := p
    have hlm : len ≤ m := by rw [hmm]; split <;> omega
    have all : ∀ k, ∃ y : Nat, k < len → y < 256 ∧ ∃ b' off', some (⟨b, off, spot⟩ : Addr) = some ⟨b', off', none⟩ ∧ b' < w.heap.size ∧ w.cell? ⟨b', off' + k, none⟩ = some (.int .u8 (y : Nat)) := by
      intro k
      by_cases hk : k < len
      · obtain ⟨cs, hc, ht⟩ := hi k (by omega)
        rw [k5] at hc
        obtain ⟨y, hy, rfl⟩ := open_u8 ht
        obtain ⟨_, hcl, hat⟩ := World.cells?_some hc
        refine ⟨y, fun _ => ⟨hy, ?_⟩⟩
        have c0 := hat 0 (by omega)
        have hspot : spot = none := by
          obtain ⟨cs2, hc2, ht2⟩ := hi 0 (by omega)
          obtain ⟨_, _, rfl⟩ := open_u8 ht2
          obtain ⟨_, _, hat2⟩ := World.cells?_some hc2
          have d0 := hat2 0 (by rw [k5]; omega)
          simpa [Addr.add] using World.cell?_spot d0
        subst hspot
        simp only [Addr.add_lit, Nat.add_zero, Nat.mul_one] at c0
        exact ⟨b, off, rfl, World.block_lt_of_cell? w _ c0, c0⟩
      · exact ⟨0, fun h => absurd h hk⟩
    exact ⟨fun k => Classical.choose (all k), fun k hk => Classical.choose_spec (all k) hk⟩
end
end Go.Proofs.Ytfiblchdfacdiaa
