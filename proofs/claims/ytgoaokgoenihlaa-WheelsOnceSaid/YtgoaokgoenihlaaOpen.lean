/- Ticks and acts that come in, opened to cells. -/
import Derived.Test.YtgoaokgoenihlaaWalkK
import Derived.Deep.Slices
import Derived.ChangeSame
import Derived.ProofKit
import Derived.OpenShut
namespace Go.Proofs.Ytgoaokgoenihlaa
open Go Go.RowKit Go.ChangeShapes Go.WideShapes Go.ChangeAt Go.Deep

/-- Ticks, in a row. -/
def DuesAt (w : World) (a : Option Addr) (len : Nat) (z : Nat → Nat) : Prop :=
  ∀ k, k < len → z k ≤ 4294967295 ∧ ∃ b off, a = some ⟨b, off, none⟩ ∧ b < w.heap.size ∧ w.cell? ⟨b, off + k, none⟩ = some (.int .u32 (z k : Nat))
/-- An act: Kind, H, By, Raw, N. -/
structure ActV where
  kind : Nat
  h : Nat
  by_ : Nat
  raw : Hn
  n : Int
structure ActV.Ok (x : ActV) : Prop where
  kind : x.kind < 256
  h : x.h < 256
  by_ : x.by_ < 65536
  raw : x.raw.Ok
  n1 : -9223372036854775808 ≤ x.n
  n2 : x.n ≤ 9223372036854775807
abbrev acs (x : ActV) : List Value := [.int .u8 (x.kind : Nat), .int .u8 (x.h : Nat), .int .u16 (x.by_ : Nat), .int .i64 x.raw.s, .int .u32 (x.raw.g : Nat), .int .i64 x.n]
def ActAt (w : World) (b o : Nat) (x : ActV) : Prop :=
  w.cell? ⟨b, o, none⟩ = some (.int .u8 (x.kind : Nat)) ∧ w.cell? ⟨b, o + 1, none⟩ = some (.int .u8 (x.h : Nat)) ∧ w.cell? ⟨b, o + 2, none⟩ = some (.int .u16 (x.by_ : Nat)) ∧
    w.cell? ⟨b, o + 3, none⟩ = some (.int .i64 x.raw.s) ∧ w.cell? ⟨b, o + 4, none⟩ = some (.int .u32 (x.raw.g : Nat)) ∧ w.cell? ⟨b, o + 5, none⟩ = some (.int .i64 x.n)
def ActsAt (w : World) (a : Option Addr) (len : Nat) (z : Nat → ActV) : Prop :=
  ∀ k, k < len → (z k).Ok ∧ ∃ b off, a = some ⟨b, off, none⟩ ∧ b < w.heap.size ∧ ActAt w b (off + k * 6) (z k)
theorem ActAt.upto {w w' : World} {b o : Nat} {x : ActV} (h : ActAt w b o x) (hu : Upto NoS w w') : ActAt w' b o x :=
  ⟨hu.keep h.1 id, hu.keep h.2.1 id, hu.keep h.2.2.1 id, hu.keep h.2.2.2.1 id, hu.keep h.2.2.2.2.1 id, hu.keep h.2.2.2.2.2 id⟩

theorem k3 : Try.prog.cellsOf 3 = 1 := by kernel_rfl
theorem k5 : Try.prog.cellsOf 5 = 1 := by kernel_rfl
theorem k29 : Try.prog.cellsOf 29 = 1 := by kernel_rfl
theorem k31 : Try.prog.cellsOf 31 = 2 := by kernel_rfl
theorem k41 : Try.prog.cellsOf 41 = 1 := by kernel_rfl
theorem k43 : Try.prog.cellsOf 43 = 6 := by kernel_rfl
theorem bounds_u16' {a : Int} (h : (Lit.int .u16 a).wf = true) : 0 ≤ a ∧ a < 65536 := by
  simp [Lit.wf, IntKind.min, IntKind.max, IntKind.signed, IntKind.bits] at h; omega
theorem bounds_u8' {a : Int} (h : (Lit.int .u8 a).wf = true) : 0 ≤ a ∧ a < 256 := by
  simp [Lit.wf, IntKind.min, IntKind.max, IntKind.signed, IntKind.bits] at h; omega
theorem bounds_u32' {a : Int} (h : (Lit.int .u32 a).wf = true) : 0 ≤ a ∧ a < 4294967296 := by
  simp [Lit.wf, IntKind.min, IntKind.max, IntKind.signed, IntKind.bits] at h; omega
theorem bounds_i64' {a : Int} (h : (Lit.int .i64 a).wf = true) : -9223372036854775808 ≤ a ∧ a ≤ 9223372036854775807 := by
  simp [Lit.wf, IntKind.min, IntKind.max, IntKind.signed, IntKind.bits] at h; omega
theorem len2 {α : Type} {l : List α} (h : l.length = 2) : ∃ a0 a1, l = [a0, a1] := by
  match l, h with
  | [a0, a1], _ => exact ⟨a0, a1, rfl⟩
theorem len5 {α : Type} {l : List α} (h : l.length = 5) : ∃ a0 a1 a2 a3 a4, l = [a0, a1, a2, a3, a4] := by
  match l, h with
  | [a0, a1, a2, a3, a4], _ => exact ⟨a0, a1, a2, a3, a4, rfl⟩
theorem len6 {α : Type} {l : List α} (h : l.length = 6) : ∃ a0 a1 a2 a3 a4 a5, l = [a0, a1, a2, a3, a4, a5] := by
  match l, h with
  | [a0, a1, a2, a3, a4, a5], _ => exact ⟨a0, a1, a2, a3, a4, a5, rfl⟩
section
variable {H : Type} {enc : TypeId × Value → H} {w : World} {base : Nat} {spare : Nat → Bool} {held : Bool}
theorem open_u32 {fuel : Nat} {cs : List Value} {x : DataW H × List MemPlace} (h : DataW.trod enc Try.prog w base spare held fuel 29 cs = some x) :
    ∃ y : Nat, y ≤ 4294967295 ∧ cs = [.int .u32 (y : Nat)] := by
  obtain ⟨n0, e0, _, g0⟩ := DataW.trod_int Try.underlying29 h
  have b0 := bounds_u32' g0
  obtain ⟨m0, rfl⟩ := Int.eq_ofNat_of_zero_le b0.1
  exact ⟨m0, by omega, e0⟩
theorem open_hn {fuel : Nat} {cs : List Value} {x : DataW H × List MemPlace} (h : DataW.trod enc Try.prog w base spare held fuel 31 cs = some x) :
    ∃ a : Hn, a.Ok ∧ cs = [.int .i64 a.s, .int .u32 (a.g : Nat)] := by
  obtain ⟨xs, n, _, hx, hl, hlen, hf⟩ := DataW.trod_struct Try.underlying31 h
  have hl2 : cs.length = 2 := hl.trans k31
  obtain ⟨c0, c1, rfl⟩ := len2 hl2
  obtain ⟨x0, x1, rfl⟩ := len2 hlen
  · skip
    have h0 : DataW.trod enc Try.prog w base spare held n 3 [c0] = some x0 := by have this : DataW.trod enc Try.prog w base spare held n 3 (List.take (Try.prog.cellsOf 3) (List.drop 0 [c0, c1])) = some x0 := hf 0 _ rfl; rw [k3] at this; exact this
    have h1 : DataW.trod enc Try.prog w base spare held n 29 [c1] = some x1 := by have this : DataW.trod enc Try.prog w base spare held n 29 (List.take (Try.prog.cellsOf 29) (List.drop 1 [c0, c1])) = some x1 := hf 1 _ rfl; rw [k29] at this; exact this
    obtain ⟨n0, e0, _, g0⟩ := DataW.trod_int Try.underlying3 (x := x0) h0
    obtain ⟨n1, e1, _, g1⟩ := DataW.trod_int Try.underlying29 (x := x1) h1
    simp at e0 e1
    subst e0; subst e1
    have b0 := bounds_i64' g0
    have b1 := bounds_u32' g1
    obtain ⟨m1, rfl⟩ := Int.eq_ofNat_of_zero_le b1.1
    exact ⟨⟨n0, m1⟩, ⟨b0.1, b0.2, by show m1 < 4294967296; omega⟩, rfl⟩
theorem open_act {fuel : Nat} {cs : List Value} {x : DataW H × List MemPlace} (h : DataW.trod enc Try.prog w base spare held fuel 43 cs = some x) :
    ∃ y : ActV, y.Ok ∧ cs = acs y := by
  obtain ⟨xs, n, _, hx, hl, hlen, hf⟩ := DataW.trod_struct Try.underlying43 h
  have hl6 : cs.length = 6 := hl.trans k43
  obtain ⟨c0, c1, c2, c3, c4, c5, rfl⟩ := len6 hl6
  obtain ⟨x0, x1, x2, x3, x4, rfl⟩ := len5 hlen
  · skip
    have h0 : DataW.trod enc Try.prog w base spare held n 5 [c0] = some x0 := by have this : DataW.trod enc Try.prog w base spare held n 5 (List.take (Try.prog.cellsOf 5) (List.drop 0 [c0, c1, c2, c3, c4, c5])) = some x0 := hf 0 _ rfl; rw [k5] at this; exact this
    have h1 : DataW.trod enc Try.prog w base spare held n 5 [c1] = some x1 := by have this : DataW.trod enc Try.prog w base spare held n 5 (List.take (Try.prog.cellsOf 5) (List.drop 1 [c0, c1, c2, c3, c4, c5])) = some x1 := hf 1 _ rfl; rw [k5] at this; exact this
    have h2 : DataW.trod enc Try.prog w base spare held n 41 [c2] = some x2 := by have this : DataW.trod enc Try.prog w base spare held n 41 (List.take (Try.prog.cellsOf 41) (List.drop 2 [c0, c1, c2, c3, c4, c5])) = some x2 := hf 2 _ rfl; rw [k41] at this; exact this
    have h3 : DataW.trod enc Try.prog w base spare held n 31 [c3, c4] = some x3 := by have this : DataW.trod enc Try.prog w base spare held n 31 (List.take (Try.prog.cellsOf 31) (List.drop 3 [c0, c1, c2, c3, c4, c5])) = some x3 := hf 3 _ rfl; rw [k31] at this; exact this
    have h4 : DataW.trod enc Try.prog w base spare held n 3 [c5] = some x4 := by have this : DataW.trod enc Try.prog w base spare held n 3 (List.take (Try.prog.cellsOf 3) (List.drop 5 [c0, c1, c2, c3, c4, c5])) = some x4 := hf 4 _ rfl; rw [k3] at this; exact this
    obtain ⟨n0, e0, _, g0⟩ := DataW.trod_int Try.underlying5 (x := x0) h0
    obtain ⟨n1, e1, _, g1⟩ := DataW.trod_int Try.underlying5 (x := x1) h1
    obtain ⟨n2, e2, _, g2⟩ := DataW.trod_int Try.underlying41 (x := x2) h2
    obtain ⟨r, hr, e3⟩ := open_hn (x := x3) h3
    obtain ⟨n4, e4, _, g4⟩ := DataW.trod_int Try.underlying3 (x := x4) h4
    simp at e0 e1 e2 e3 e4
    obtain ⟨rfl, rfl⟩ := e3
    subst e0; subst e1; subst e2; subst e4
    have b0 := bounds_u8' g0
    have b1 := bounds_u8' g1
    have b2 := bounds_u16' g2
    have b4 := bounds_i64' g4
    obtain ⟨m0, rfl⟩ := Int.eq_ofNat_of_zero_le b0.1
    obtain ⟨m1, rfl⟩ := Int.eq_ofNat_of_zero_le b1.1
    obtain ⟨m2, rfl⟩ := Int.eq_ofNat_of_zero_le b2.1
    exact ⟨⟨m0, m1, m2, r, n4⟩, ⟨by show m0 < 256; omega, by show m1 < 256; omega, by show m2 < 65536; omega, hr, b4.1, b4.2⟩, rfl⟩
theorem open_dues {fuel : Nat} {a : Option Addr} {len cap : Nat} {x : DataW H × List MemPlace} (h : DataW.trod enc Try.prog w base spare held fuel 22 [.slice a len cap] = some x) :
    len ≤ 9223372036854775807 ∧ ∃ z : Nat → Nat, DuesAt w a len z := by
  rcases open_slice Try.underlying22 h with ⟨hcs, _⟩ | ⟨p, l, c, m, n, D, Pl, hcs, hb, hl, hm, hmm, _, hi⟩
  · simp only [List.cons.injEq, Value.slice.injEq, and_true] at hcs
    obtain ⟨rfl, rfl, rfl⟩ := hcs
    exact ⟨by omega, fun _ => 0, fun k hk => by omega⟩
  · simp only [List.cons.injEq, Value.slice.injEq, and_true] at hcs
    obtain ⟨rfl, rfl, rfl⟩ := hcs
    refine ⟨by unfold maxLen at hm; omega, ?_⟩
    obtain ⟨b, off, spot⟩ := p
    have hlm : len ≤ m := by rw [hmm]; split <;> omega
    have all : ∀ k, ∃ y : Nat, k < len → y ≤ 4294967295 ∧ ∃ b' off', some (⟨b, off, spot⟩ : Addr) = some ⟨b', off', none⟩ ∧ b' < w.heap.size ∧ w.cell? ⟨b', off' + k, none⟩ = some (.int .u32 (y : Nat)) := by
      intro k
      by_cases hk : k < len
      · obtain ⟨cs, hc, ht⟩ := hi k (by omega)
        rw [k29] at hc
        obtain ⟨y, hy, rfl⟩ := open_u32 ht
        obtain ⟨_, hcl, hat⟩ := World.cells?_some hc
        refine ⟨y, fun _ => ⟨hy, ?_⟩⟩
        have c0 := hat 0 (by omega)
        have hspot : spot = none := by
          obtain ⟨cs2, hc2, ht2⟩ := hi 0 (by omega)
          obtain ⟨_, _, rfl⟩ := open_u32 ht2
          obtain ⟨_, _, hat2⟩ := World.cells?_some hc2
          have d0 := hat2 0 (by rw [k29]; omega)
          simpa [Addr.add] using World.cell?_spot d0
        subst hspot
        simp only [Addr.add_lit, Nat.add_zero, Nat.mul_one] at c0
        exact ⟨b, off, rfl, World.block_lt_of_cell? w _ c0, c0⟩
      · exact ⟨0, fun h => absurd h hk⟩
    exact ⟨fun k => Classical.choose (all k), fun k hk => Classical.choose_spec (all k) hk⟩
theorem open_acts {fuel : Nat} {a : Option Addr} {len cap : Nat} {x : DataW H × List MemPlace} (h : DataW.trod enc Try.prog w base spare held fuel 39 [.slice a len cap] = some x) :
    len ≤ 9223372036854775807 ∧ ∃ z : Nat → ActV, ActsAt w a len z := by
  rcases open_slice Try.underlying39 h with ⟨hcs, _⟩ | ⟨p, l, c, m, n, D, Pl, hcs, hb, hl, hm, hmm, _, hi⟩
  · simp only [List.cons.injEq, Value.slice.injEq, and_true] at hcs
    obtain ⟨rfl, rfl, rfl⟩ := hcs
    exact ⟨by omega, fun _ => ⟨0, 0, 0, ⟨0, 0⟩, 0⟩, fun k hk => by omega⟩
  · simp only [List.cons.injEq, Value.slice.injEq, and_true] at hcs
    obtain ⟨rfl, rfl, rfl⟩ := hcs
    refine ⟨by unfold maxLen at hm; omega, ?_⟩
    obtain ⟨b, off, spot⟩ := p
    have hlm : len ≤ m := by rw [hmm]; split <;> omega
    have all : ∀ k, ∃ y : ActV, k < len → y.Ok ∧ ∃ b' off', some (⟨b, off, spot⟩ : Addr) = some ⟨b', off', none⟩ ∧ b' < w.heap.size ∧ ActAt w b' (off' + k * 6) y := by
      intro k
      by_cases hk : k < len
      · obtain ⟨cs, hc, ht⟩ := hi k (by omega)
        rw [k43] at hc
        obtain ⟨y, hy, rfl⟩ := open_act ht
        obtain ⟨_, hcl, hat⟩ := World.cells?_some hc
        refine ⟨y, fun _ => ⟨hy, ?_⟩⟩
        have c0 := hat 0 (by omega)
        have c1 := hat 1 (by omega)
        have c2 := hat 2 (by omega)
        have c3 := hat 3 (by omega)
        have c4 := hat 4 (by omega)
        have c5 := hat 5 (by omega)
        have hspot : spot = none := by
          obtain ⟨cs2, hc2, ht2⟩ := hi 0 (by omega)
          obtain ⟨_, _, rfl⟩ := open_act ht2
          obtain ⟨_, _, hat2⟩ := World.cells?_some hc2
          have d0 := hat2 0 (by rw [k43]; omega)
          simpa [Addr.add] using World.cell?_spot d0
        subst hspot
        simp only [Addr.add_lit, Nat.add_zero, Nat.mul_one] at c0 c1 c2 c3 c4 c5
        exact ⟨b, off, rfl, World.block_lt_of_cell? w _ c0, c0, c1, c2, c3, c4, c5⟩
      · exact ⟨⟨0, 0, 0, ⟨0, 0⟩, 0⟩, fun h => absurd h hk⟩
    exact ⟨fun k => Classical.choose (all k), fun k hk => Classical.choose_spec (all k) hk⟩
end
end Go.Proofs.Ytgoaokgoenihlaa
