/- A wish and an act that come in, opened to cells. -/
import Derived.Test.YtfiblchdfacdiaaTried
import Derived.Deep.Slices
import Derived.ChangeSame
import Derived.ProofKit
import Derived.OpenShut
namespace Go.Proofs.Ytfiblchdfacdiaa
open Go Go.RowKit Go.ChangeShapes Go.WideShapes Go.ChangeAt Go.Deep
section
variable {H : Type} {enc : TypeId × Value → H} {w : World} {base : Nat} {spare : Nat → Bool} {held : Bool}
theorem k5 : Try.prog.cellsOf 5 = 1 := by kernel_rfl
theorem k23 : Try.prog.cellsOf 23 = 1 := by kernel_rfl
theorem k24 : Try.prog.cellsOf 24 = 1 := by kernel_rfl
theorem k26 : Try.prog.cellsOf 26 = 2 := by kernel_rfl
theorem k28 : Try.prog.cellsOf 28 = 7 := by kernel_rfl
theorem k50 : Try.prog.cellsOf 50 = 14 := by kernel_rfl
theorem bounds_u16' {a : Int} (h : (Lit.int .u16 a).wf = true) : 0 ≤ a ∧ a < 65536 := by
  simp [Lit.wf, IntKind.min, IntKind.max, IntKind.signed, IntKind.bits] at h; omega
theorem bounds_u8' {a : Int} (h : (Lit.int .u8 a).wf = true) : 0 ≤ a ∧ a < 256 := by
  simp [Lit.wf, IntKind.min, IntKind.max, IntKind.signed, IntKind.bits] at h; omega
theorem bounds_u32' {a : Int} (h : (Lit.int .u32 a).wf = true) : 0 ≤ a ∧ a < 4294967296 := by
  simp [Lit.wf, IntKind.min, IntKind.max, IntKind.signed, IntKind.bits] at h; omega
theorem len2 {α : Type} {l : List α} (h : l.length = 2) : ∃ a0 a1, l = [a0, a1] := by
  match l, h with
  | [a0, a1], _ => exact ⟨a0, a1, rfl⟩
theorem len6 {α : Type} {l : List α} (h : l.length = 6) : ∃ a0 a1 a2 a3 a4 a5, l = [a0, a1, a2, a3, a4, a5] := by
  match l, h with
  | [a0, a1, a2, a3, a4, a5], _ => exact ⟨a0, a1, a2, a3, a4, a5, rfl⟩
theorem len7 {α : Type} {l : List α} (h : l.length = 7) : ∃ a0 a1 a2 a3 a4 a5 a6, l = [a0, a1, a2, a3, a4, a5, a6] := by
  match l, h with
  | [a0, a1, a2, a3, a4, a5, a6], _ => exact ⟨a0, a1, a2, a3, a4, a5, a6, rfl⟩
theorem len14 {α : Type} {l : List α} (h : l.length = 14) : ∃ a0 a1 a2 a3 a4 a5 a6 a7 a8 a9 a10 a11 a12 a13, l = [a0, a1, a2, a3, a4, a5, a6, a7, a8, a9, a10, a11, a12, a13] := by
  match l, h with
  | [a0, a1, a2, a3, a4, a5, a6, a7, a8, a9, a10, a11, a12, a13], _ => exact ⟨a0, a1, a2, a3, a4, a5, a6, a7, a8, a9, a10, a11, a12, a13, rfl⟩
theorem open_ep {fuel : Nat} {cs : List Value} {x : DataW H × List MemPlace} (h : DataW.trod enc Try.prog w base spare held fuel 26 cs = some x) :
    ∃ a b : Nat, a < 4294967296 ∧ b < 65536 ∧ cs = [.int .u32 (a : Nat), .int .u16 (b : Nat)] := by
  obtain ⟨xs, n, _, hx, hl, hlen, hf⟩ := DataW.trod_struct Try.underlying26 h
  have hl2 : cs.length = 2 := hl.trans k26
  obtain ⟨c0, c1, rfl⟩ := len2 hl2
  obtain ⟨x0, x1, rfl⟩ := len2 hlen
  · skip
    have h0 : DataW.trod enc Try.prog w base spare held n 23 [c0] = some x0 := by have this : DataW.trod enc Try.prog w base spare held n 23 (List.take (Try.prog.cellsOf 23) (List.drop 0 [c0, c1])) = some x0 := hf 0 _ rfl; rw [k23] at this; exact this
    have h1 : DataW.trod enc Try.prog w base spare held n 24 [c1] = some x1 := by have this : DataW.trod enc Try.prog w base spare held n 24 (List.take (Try.prog.cellsOf 24) (List.drop 1 [c0, c1])) = some x1 := hf 1 _ rfl; rw [k24] at this; exact this
    obtain ⟨n0, e0, _, g0⟩ := DataW.trod_int Try.underlying23 (x := x0) h0
    obtain ⟨n1, e1, _, g1⟩ := DataW.trod_int Try.underlying24 (x := x1) h1
    simp at e0 e1
    subst e0; subst e1
    have b0 := bounds_u32' g0
    have b1 := bounds_u16' g1
    obtain ⟨m0, rfl⟩ := Int.eq_ofNat_of_zero_le b0.1
    obtain ⟨m1, rfl⟩ := Int.eq_ofNat_of_zero_le b1.1
    exact ⟨m0, m1, by omega, by omega, rfl⟩
theorem open_wish {fuel : Nat} {cs : List Value} {x : DataW H × List MemPlace} (h : DataW.trod enc Try.prog w base spare held fuel 28 cs = some x) :
    ∃ W : Ws, W.Ok ∧ cs = (wcells W).toList := by
  obtain ⟨xs, n, _, hx, hl, hlen, hf⟩ := DataW.trod_struct Try.underlying28 h
  have hl7 : cs.length = 7 := hl.trans k28
  obtain ⟨c0, c1, c2, c3, c4, c5, c6, rfl⟩ := len7 hl7
  obtain ⟨x0, x1, x2, x3, x4, x5, rfl⟩ := len6 hlen
  · skip
    have h0 : DataW.trod enc Try.prog w base spare held n 5 [c0] = some x0 := by have this : DataW.trod enc Try.prog w base spare held n 5 (List.take (Try.prog.cellsOf 5) (List.drop 0 [c0, c1, c2, c3, c4, c5, c6])) = some x0 := hf 0 _ rfl; rw [k5] at this; exact this
    have h1 : DataW.trod enc Try.prog w base spare held n 26 [c1, c2] = some x1 := by have this : DataW.trod enc Try.prog w base spare held n 26 (List.take (Try.prog.cellsOf 26) (List.drop 1 [c0, c1, c2, c3, c4, c5, c6])) = some x1 := hf 1 _ rfl; rw [k26] at this; exact this
    have h2 : DataW.trod enc Try.prog w base spare held n 23 [c3] = some x2 := by have this : DataW.trod enc Try.prog w base spare held n 23 (List.take (Try.prog.cellsOf 23) (List.drop 3 [c0, c1, c2, c3, c4, c5, c6])) = some x2 := hf 2 _ rfl; rw [k23] at this; exact this
    have h3 : DataW.trod enc Try.prog w base spare held n 24 [c4] = some x3 := by have this : DataW.trod enc Try.prog w base spare held n 24 (List.take (Try.prog.cellsOf 24) (List.drop 4 [c0, c1, c2, c3, c4, c5, c6])) = some x3 := hf 3 _ rfl; rw [k24] at this; exact this
    have h4 : DataW.trod enc Try.prog w base spare held n 24 [c5] = some x4 := by have this : DataW.trod enc Try.prog w base spare held n 24 (List.take (Try.prog.cellsOf 24) (List.drop 5 [c0, c1, c2, c3, c4, c5, c6])) = some x4 := hf 4 _ rfl; rw [k24] at this; exact this
    have h5 : DataW.trod enc Try.prog w base spare held n 24 [c6] = some x5 := by have this : DataW.trod enc Try.prog w base spare held n 24 (List.take (Try.prog.cellsOf 24) (List.drop 6 [c0, c1, c2, c3, c4, c5, c6])) = some x5 := hf 5 _ rfl; rw [k24] at this; exact this
    obtain ⟨n0, e0, _, g0⟩ := DataW.trod_int Try.underlying5 (x := x0) h0
    obtain ⟨m1, m2, q1, q2, e1⟩ := open_ep h1
    obtain ⟨n3, e3, _, g3⟩ := DataW.trod_int Try.underlying23 (x := x2) h2
    obtain ⟨n4, e4, _, g4⟩ := DataW.trod_int Try.underlying24 (x := x3) h3
    obtain ⟨n5, e5, _, g5⟩ := DataW.trod_int Try.underlying24 (x := x4) h4
    obtain ⟨n6, e6, _, g6⟩ := DataW.trod_int Try.underlying24 (x := x5) h5
    simp at e0 e1 e3 e4 e5 e6
    obtain ⟨rfl, rfl⟩ := e1
    subst e0; subst e3; subst e4; subst e5; subst e6
    have b0 := bounds_u8' g0
    have b3 := bounds_u32' g3
    have b4 := bounds_u16' g4
    have b5 := bounds_u16' g5
    have b6 := bounds_u16' g6
    obtain ⟨m0, rfl⟩ := Int.eq_ofNat_of_zero_le b0.1
    obtain ⟨m3, rfl⟩ := Int.eq_ofNat_of_zero_le b3.1
    obtain ⟨m4, rfl⟩ := Int.eq_ofNat_of_zero_le b4.1
    obtain ⟨m5, rfl⟩ := Int.eq_ofNat_of_zero_le b5.1
    obtain ⟨m6, rfl⟩ := Int.eq_ofNat_of_zero_le b6.1
    exact ⟨⟨m0, m1, m2, m3, m4, m5, m6⟩, ⟨by show m0 < 256; omega, q1, q2, by show m3 < _; omega, by show m4 < _; omega, by show m5 < _; omega, by show m6 < _; omega⟩, rfl⟩
theorem open_act {fuel : Nat} {cs : List Value} {x : DataW H × List MemPlace} (h : DataW.trod enc Try.prog w base spare held fuel 50 cs = some x) :
    ∃ ak ap ai ao as' a b c d e f g y z : Int, cs = [.int .u8 ak, .int .u8 ap, .int .u8 ai, .int .u8 ao, .int .u8 as', .int .u8 a, .int .u32 b, .int .u16 c, .int .u32 d, .int .u16 e, .int .u16 f, .int .u16 g, .int .u32 y, .int .u16 z] := by
  obtain ⟨xs, n, _, hx, hl, hlen, hf⟩ := DataW.trod_struct Try.underlying50 h
  have hl14 : cs.length = 14 := hl.trans k50
  obtain ⟨c0, c1, c2, c3, c4, c5, c6, c7, c8, c9, c10, c11, c12, c13, rfl⟩ := len14 hl14
  obtain ⟨x0, x1, x2, x3, x4, x5, x6, rfl⟩ := len7 hlen
  · skip
    have h0 : DataW.trod enc Try.prog w base spare held n 5 [c0] = some x0 := by have this : DataW.trod enc Try.prog w base spare held n 5 (List.take (Try.prog.cellsOf 5) (List.drop 0 [c0, c1, c2, c3, c4, c5, c6, c7, c8, c9, c10, c11, c12, c13])) = some x0 := hf 0 _ rfl; rw [k5] at this; exact this
    have h1 : DataW.trod enc Try.prog w base spare held n 5 [c1] = some x1 := by have this : DataW.trod enc Try.prog w base spare held n 5 (List.take (Try.prog.cellsOf 5) (List.drop 1 [c0, c1, c2, c3, c4, c5, c6, c7, c8, c9, c10, c11, c12, c13])) = some x1 := hf 1 _ rfl; rw [k5] at this; exact this
    have h2 : DataW.trod enc Try.prog w base spare held n 5 [c2] = some x2 := by have this : DataW.trod enc Try.prog w base spare held n 5 (List.take (Try.prog.cellsOf 5) (List.drop 2 [c0, c1, c2, c3, c4, c5, c6, c7, c8, c9, c10, c11, c12, c13])) = some x2 := hf 2 _ rfl; rw [k5] at this; exact this
    have h3 : DataW.trod enc Try.prog w base spare held n 5 [c3] = some x3 := by have this : DataW.trod enc Try.prog w base spare held n 5 (List.take (Try.prog.cellsOf 5) (List.drop 3 [c0, c1, c2, c3, c4, c5, c6, c7, c8, c9, c10, c11, c12, c13])) = some x3 := hf 3 _ rfl; rw [k5] at this; exact this
    have h4 : DataW.trod enc Try.prog w base spare held n 5 [c4] = some x4 := by have this : DataW.trod enc Try.prog w base spare held n 5 (List.take (Try.prog.cellsOf 5) (List.drop 4 [c0, c1, c2, c3, c4, c5, c6, c7, c8, c9, c10, c11, c12, c13])) = some x4 := hf 4 _ rfl; rw [k5] at this; exact this
    have h5 : DataW.trod enc Try.prog w base spare held n 28 [c5, c6, c7, c8, c9, c10, c11] = some x5 := by have this : DataW.trod enc Try.prog w base spare held n 28 (List.take (Try.prog.cellsOf 28) (List.drop 5 [c0, c1, c2, c3, c4, c5, c6, c7, c8, c9, c10, c11, c12, c13])) = some x5 := hf 5 _ rfl; rw [k28] at this; exact this
    have h6 : DataW.trod enc Try.prog w base spare held n 26 [c12, c13] = some x6 := by have this : DataW.trod enc Try.prog w base spare held n 26 (List.take (Try.prog.cellsOf 26) (List.drop 12 [c0, c1, c2, c3, c4, c5, c6, c7, c8, c9, c10, c11, c12, c13])) = some x6 := hf 6 _ rfl; rw [k26] at this; exact this
    obtain ⟨n0, e0, _, g0⟩ := DataW.trod_int Try.underlying5 (x := x0) h0
    obtain ⟨n1, e1, _, g1⟩ := DataW.trod_int Try.underlying5 (x := x1) h1
    obtain ⟨n2, e2, _, g2⟩ := DataW.trod_int Try.underlying5 (x := x2) h2
    obtain ⟨n3, e3, _, g3⟩ := DataW.trod_int Try.underlying5 (x := x3) h3
    obtain ⟨n4, e4, _, g4⟩ := DataW.trod_int Try.underlying5 (x := x4) h4
    obtain ⟨W, hW, e5⟩ := open_wish h5
    obtain ⟨m1, m2, q1, q2, e6⟩ := open_ep h6
    simp at e0 e1 e2 e3 e4 e5 e6
    obtain ⟨rfl, rfl, rfl, rfl, rfl, rfl, rfl⟩ := e5
    obtain ⟨rfl, rfl⟩ := e6
    subst e0; subst e1; subst e2; subst e3; subst e4
    exact ⟨n0, n1, n2, n3, n4, _, _, _, _, _, _, _, _, _, rfl⟩
end
end Go.Proofs.Ytfiblchdfacdiaa
