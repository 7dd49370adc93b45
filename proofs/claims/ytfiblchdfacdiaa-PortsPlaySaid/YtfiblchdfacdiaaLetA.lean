/- The chapter's example of ports: its calls, written out. -/
import Derived.Test.YtfiblchdfacdiaaPick
namespace Go.Proofs.Ytfiblchdfacdiaa
open Go Go.RowKit Go.Deep Go.Maps

abbrev vWish (p a b c f t d : Int) : Value := .agg #[.int .u8 p, .int .u32 a, .int .u16 b, .int .u32 c, .int .u16 f, .int .u16 t, .int .u16 d]
abbrev vEp (a b : Int) : Value := .agg #[.int .u32 a, .int .u16 b]
def RBO (rb ob i : Nat) : Prop := i = rb ∨ i = ob
variable (w : World) (x rb ob k1 k2 k3 k4 : Nat)
theorem call_a (h : PsAt w x rb ob []) : Calls Try.prog 14 #[.pointer (some ⟨x, 0, none⟩), vWish 17 1 4000 9 1000 2000 5] w fun e w' => e = .returned (.tuple #[vEp 9 1006, .int .i64 0]) ∧ ∃ k, w.heap.size ≤ k ∧ PsAt w' x rb ob [(Ra, k)] ∧ Upto (RBO rb ob) w w' :=
  Take_pick w x rb ob [] La 1006 h ok_a may_a rfl (by decide) pick_a
theorem call_b (h : PsAt w x rb ob [(Ra, k1)]) : Calls Try.prog 14 #[.pointer (some ⟨x, 0, none⟩), vWish 17 2 1006 9 1000 2000 5] w fun e w' => e = .returned (.tuple #[vEp 9 1008, .int .i64 0]) ∧ ∃ k, w.heap.size ≤ k ∧ PsAt w' x rb ob [(Ra, k1), (Rb, k)] ∧ Upto (RBO rb ob) w w' :=
  Take_pick w x rb ob [(Ra, k1)] Lb 1008 h ok_b may_b rfl (by simp) pick_b
theorem call_c (h : PsAt w x rb ob [(Ra, k1), (Rb, k2)]) : Calls Try.prog 14 #[.pointer (some ⟨x, 0, none⟩), vWish 17 3 1500 9 1000 2000 5] w fun e w' => e = .returned (.tuple #[vEp 9 1500, .int .i64 0]) ∧ ∃ k, w.heap.size ≤ k ∧ PsAt w' x rb ob [(Ra, k1), (Rb, k2), (Rc, k)] ∧ Upto (RBO rb ob) w w' :=
  Take_pick w x rb ob [(Ra, k1), (Rb, k2)] Lc 1500 h ok_c may_c rfl (by simp) pick_c
theorem call_d (h : PsAt w x rb ob [(Ra, k1), (Rb, k2), (Rc, k3)]) : Calls Try.prog 14 #[.pointer (some ⟨x, 0, none⟩), vWish 17 1 4000 9 1000 2000 5] w fun e w' => e = .returned (.tuple #[vEp 9 1006, .int .i64 0]) ∧ PsAt w' x rb ob [(hold Ra, k1), (Rb, k2), (Rc, k3)] ∧ Upto (fun i => i = k1) w w' := by
  have hn := h.nodup
  simp at hn
  have e : updT [(Ra, k1), (Rb, k2), (Rc, k3)] k1 hold = [(hold Ra, k1), (Rb, k2), (Rc, k3)] := by
    have n2 : ¬ k2 = k1 := by omega
    have n3 : ¬ k3 = k1 := by omega
    simp [updT, n2, n3]
  have := Take_held w x rb ob [(Ra, k1), (Rb, k2), (Rc, k3)] La (Ra, k1) h ok_a may_a rfl rfl (show La.fr ≤ Ra.ob by decide) (show Ra.ob ≤ La.tu by decide) (show Ra.held < 1000000 by decide)
  rw [e] at this
  exact this
theorem call_o (h : PsAt w x rb ob [(hold Ra, k1), (Rb, k2), (Rc, k3)]) : Calls Try.prog 25 #[.pointer (some ⟨x, 0, none⟩), .int .u8 17, vEp 1 4000] w fun e w' => e = .returned (.tuple #[.agg #[.int .u8 17, .int .u32 9, .int .u16 1006, .int .u32 1, .int .u16 4000, .int .i64 0, .int .i64 2], .bool true]) ∧ Upto NoS w w' :=
  Of_some w x rb ob [(hold Ra, k1), (Rb, k2), (Rc, k3)] 17 1 4000 (hold Ra, k1) h (by omega) (by omega) (by omega) rfl
theorem call_e (h : PsAt w x rb ob [(hold Ra, k1), (Rb, k2), (Rc, k3)]) : Calls Try.prog 14 #[.pointer (some ⟨x, 0, none⟩), vWish 0 0 1 0 7 7 0] w fun e w' => e = .returned (.tuple #[vEp 0 7, .int .i64 0]) ∧ ∃ k, w.heap.size ≤ k ∧ PsAt w' x rb ob [(hold Ra, k1), (Rb, k2), (Rc, k3), (Re, k)] ∧ Upto (RBO rb ob) w w' :=
  Take_pick w x rb ob [(hold Ra, k1), (Rb, k2), (Rc, k3)] Le 7 h ok_e may_e rfl (by simp) pick_e
theorem call_f (h : PsAt w x rb ob [(hold Ra, k1), (Rb, k2), (Rc, k3), (Re, k4)]) : Calls Try.prog 14 #[.pointer (some ⟨x, 0, none⟩), vWish 0 0 2 0 7 7 0] w fun e w' => e = .returned (.tuple #[vEp 0 0, .int .i64 8]) ∧ PsAt w' x rb ob [(hold Ra, k1), (Rb, k2), (Rc, k3), (Re, k4)] ∧ Upto NoS w w' :=
  Take_full w x rb ob [(hold Ra, k1), (Rb, k2), (Rc, k3), (Re, k4)] Lf h ok_f may_f rfl (by simp) pick_f
theorem call_n (h : PsAt w x rb ob [(hold Ra, k1), (Rb, k2), (Rc, k3), (Re, k4)]) : Calls Try.prog 28 #[.pointer (some ⟨x, 0, none⟩)] w fun e w' => e = .returned (.int .i64 4) ∧ w = w' :=
  Count_any w x rb ob _ h
end Go.Proofs.Ytfiblchdfacdiaa
