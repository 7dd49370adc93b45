/- The law's within, walked; acts that came in, opened to cells. -/
import Derived.Test.YtmmhjibgmpdjoaaWalkH
import Derived.Deep.Slices
import Derived.ChangeSame
import Derived.ProofKit
import Derived.OpenShut
namespace Go.Proofs.Ytmmhjibgmpdjoaa
open Go Go.RowKit Go.ChangeShapes Go.WideShapes Go.ChangeAt Go.Deep Md

/-- A number, from 0 to below another one. -/
def withinN (n : Int) (m : Nat) : Nat := (IntKind.u64.wrap n).toNat % m
theorem withinN_lt (n : Int) {m : Nat} (h : 0 < m) : withinN n m < m := Nat.mod_lt _ h
theorem u64_bd (n : Int) : 0 ≤ IntKind.u64.wrap n := by rw [IntKind.wrap_u64]; omega
theorem u64_in (m : Nat) (h : m ≤ 1000) : IntKind.u64.wrap (m : Int) = (m : Int) := by rw [IntKind.wrap_u64]; omega
theorem within_any (w : World) (n : Int) (m : Nat) (h1 : 1 ≤ m) (h2 : m ≤ 1000) :
    Calls Try.prog 10 #[.int .i64 n, .int .i64 m] w fun e w' => e = .returned (.int .i64 (withinN n m : Nat)) ∧ w = w' := by
  have hu0 := u64_bd n
  obtain ⟨u, hu⟩ := Int.eq_ofNat_of_zero_le hu0
  have hr : withinN n m = u % m := by unfold withinN; rw [hu]; rfl
  have hlt : u % m < m := Nat.mod_lt _ (by omega)
  have hm := u64_in m h2
  rw [hr]
  have hmod : ((u : Int) % (m : Int)) = ((u % m : Nat) : Int) := by simp
  generalize u % m = r at hlt hmod ⊢
  clear hu0 hr
  have hwr : IntKind.i64.wrap (r : Int) = (r : Int) := IntWalk.i64_in _ (by omega)
  go_enter Try.func10, Try.ntmps10
  go_wp2
  go_ret
  exact ⟨rfl, rfl⟩

/-- One act: Kind, W, Slot. -/
structure ActV where
  kind : Nat
  who : Int
  slot : Int
def ActV.ok (x : ActV) : Prop := x.kind < 256 ∧ (-9223372036854775808 ≤ x.who ∧ x.who ≤ 9223372036854775807) ∧ (-9223372036854775808 ≤ x.slot ∧ x.slot ≤ 9223372036854775807)
def ActAt (w : World) (b o : Nat) (x : ActV) : Prop :=
  w.cell? ⟨b, o, none⟩ = some (.int .u8 (x.kind : Nat)) ∧ w.cell? ⟨b, o + 1, none⟩ = some (.int .i64 x.who) ∧ w.cell? ⟨b, o + 2, none⟩ = some (.int .i64 x.slot)
def ActsAt (w : World) (a : Option Addr) (len : Nat) (z : Nat → ActV) : Prop :=
  ∀ k, k < len → (z k).ok ∧ ∃ b off, a = some ⟨b, off, none⟩ ∧ b < w.heap.size ∧ ActAt w b (off + k * 3) (z k)
theorem ActAt.upto {w w' : World} {b o : Nat} {x : ActV} (h : ActAt w b o x) (hu : Upto NoS w w') : ActAt w' b o x :=
  ⟨hu.keep h.1 id, hu.keep h.2.1 id, hu.keep h.2.2 id⟩

section
variable {H : Type} {enc : TypeId × Value → H} {w : World} {base : Nat} {spare : Nat → Bool} {held : Bool}
theorem open_act {fuel : Nat} {cs : List Value} {x : DataW H × List MemPlace} (h : DataW.trod enc Try.prog w base spare held fuel 32 cs = some x) :
    ∃ y : ActV, y.ok ∧ cs = [.int .u8 (y.kind : Nat), .int .i64 y.who, .int .i64 y.slot] := by
  obtain ⟨xs, n, _, hx, hl, hlen, hf⟩ := DataW.trod_struct Try.underlying32 h
  have hl3 : cs.length = 3 := hl.trans (by kernel_rfl)
  match cs, hl3, xs, hlen with
  | [c0, c1, c2], _, [x0, x1, x2], _ =>
    have k5 : Try.prog.cellsOf 5 = 1 := by kernel_rfl
    have k3 : Try.prog.cellsOf 3 = 1 := by kernel_rfl
    have h0 : DataW.trod enc Try.prog w base spare held n 5 [c0] = some x0 := by have this : DataW.trod enc Try.prog w base spare held n 5 (List.take (Try.prog.cellsOf 5) (List.drop 0 [c0, c1, c2])) = some x0 := hf 0 _ rfl; rw [k5] at this; exact this
    have h1 : DataW.trod enc Try.prog w base spare held n 3 [c1] = some x1 := by have this : DataW.trod enc Try.prog w base spare held n 3 (List.take (Try.prog.cellsOf 3) (List.drop 1 [c0, c1, c2])) = some x1 := hf 1 _ rfl; rw [k3] at this; exact this
    have h2 : DataW.trod enc Try.prog w base spare held n 3 [c2] = some x2 := by have this : DataW.trod enc Try.prog w base spare held n 3 (List.take (Try.prog.cellsOf 3) (List.drop 2 [c0, c1, c2])) = some x2 := hf 2 _ rfl; rw [k3] at this; exact this
    obtain ⟨n0, e0, _, g0⟩ := DataW.trod_int Try.underlying5 (x := x0) h0
    obtain ⟨n1, e1, _, g1⟩ := DataW.trod_int Try.underlying3 (x := x1) h1
    obtain ⟨n2, e2, _, g2⟩ := DataW.trod_int Try.underlying3 (x := x2) h2
    simp at e0 e1 e2
    subst e0; subst e1; subst e2
    have b0 := bounds_u8 g0
    have b1 := bounds_i64 g1
    have b2 := bounds_i64 g2
    refine ⟨⟨n0.toNat, n1, n2⟩, ⟨by show n0.toNat < 256; omega, ⟨by show _ ≤ n1; omega, by show n1 ≤ _; omega⟩, ⟨by show _ ≤ n2; omega, by show n2 ≤ _; omega⟩⟩, ?_⟩
    show _ = [Value.int .u8 ((n0.toNat : Nat) : Int), _, _]
    rw [Int.toNat_of_nonneg (by omega)]
theorem open_acts {fuel : Nat} {a : Option Addr} {len cap : Nat} {x : DataW H × List MemPlace} (h : DataW.trod enc Try.prog w base spare held fuel 22 [.slice a len cap] = some x) :
    len ≤ 9223372036854775807 ∧ ∃ z : Nat → ActV, ActsAt w a len z := by
  rcases open_slice Try.underlying22 h with ⟨hcs, _⟩ | ⟨p, l, c, m, n, D, Pl, hcs, hb, hl, hm, hmm, _, hi⟩
  · simp only [List.cons.injEq, Value.slice.injEq, and_true] at hcs
    obtain ⟨rfl, rfl, rfl⟩ := hcs
    exact ⟨by omega, fun _ => ⟨0, 0, 0⟩, fun k hk => by omega⟩
  · simp only [List.cons.injEq, Value.slice.injEq, and_true] at hcs
    obtain ⟨rfl, rfl, rfl⟩ := hcs
    refine ⟨by unfold maxLen at hm; omega, ?_⟩
    have k32 : Try.prog.cellsOf 32 = 3 := by kernel_rfl
    obtain ⟨b, off, spot⟩ := p
    have hlm : len ≤ m := by rw [hmm]; split <;> omega
    have all : ∀ k, ∃ y : ActV, k < len → y.ok ∧ ∃ b' off', some (⟨b, off, spot⟩ : Addr) = some ⟨b', off', none⟩ ∧ b' < w.heap.size ∧ ActAt w b' (off' + k * 3) y := by
      intro k
      by_cases hk : k < len
      · obtain ⟨cs, hc, ht⟩ := hi k (by omega)
        rw [k32] at hc
        obtain ⟨y, hy, rfl⟩ := open_act ht
        obtain ⟨_, hcl, hat⟩ := World.cells?_some hc
        refine ⟨y, fun _ => ⟨hy, ?_⟩⟩
        have c0 := hat 0 (by omega)
        have c1 := hat 1 (by omega)
        have c2 := hat 2 (by omega)
        have hspot : spot = none := by
          obtain ⟨cs2, hc2, ht2⟩ := hi 0 (by omega)
          obtain ⟨_, _, rfl⟩ := open_act ht2
          obtain ⟨_, _, hat2⟩ := World.cells?_some hc2
          have d0 := hat2 0 (by rw [k32]; omega)
          simpa [Addr.add] using World.cell?_spot d0
        subst hspot
        simp only [Addr.add_lit, Nat.add_zero] at c0 c1 c2
        exact ⟨b, off, rfl, World.block_lt_of_cell? w _ c0, c0, c1, c2⟩
      · exact ⟨⟨0, 0, 0⟩, fun h => absurd h hk⟩
    exact ⟨fun k => Classical.choose (all k), fun k hk => Classical.choose_spec (all k) hk⟩
end
end Go.Proofs.Ytmmhjibgmpdjoaa
