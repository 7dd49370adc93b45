/- What it is that epochs lie at a place in memory. -/
import Derived.Test.YtmmhjibgmpdjoaaChecked
import Derived.Test.YtmmhjibgmpdjoaaBase
import Derived.Test.YtmmhjibgmpdjoaaModel
namespace Go.Proofs.Ytmmhjibgmpdjoaa
open Go Go.RowKit Go.Deep Md

def epF (g n : Nat) (vt : Value) (now : Nat) (i : Nat) : Value :=
  if i = 0 then .int .i64 (now : Nat) else if i = 1 then .slice (some ⟨g, 0, none⟩) n n else vt

/-- Epochs at block x, their workers at block g, what waits behind the value vt. -/
structure EpAt (w : World) (x g : Nat) (vt : Value) (E : Ep) : Prop where
  row : w.rowIs x 44 3 (epF g E.ws.length vt E.now)
  ws : w.rowIs g 3 E.ws.length (fun i => .int .i64 (wAt E.ws i))
  wt : w.ownsRow (x + 1) 59 2 vt E.wt.length (pcl E.wt)
  gx : g < x
  ok : E.Ok

/-- The blocks that are theirs. -/
def EpS (x g : Nat) (vt : Value) (k : Nat) : Prop := k = x ∨ k = g ∨ vt.ownBlock = some k

namespace EpAt
variable {w w' : World} {x g : Nat} {vt : Value} {E : Ep}
theorem lt (h : EpAt w x g vt E) : x < w.heap.size := h.row.lt
theorem c0 (h : EpAt w x g vt E) : w.cell? ⟨x, 0, none⟩ = some (.int .i64 (E.now : Nat)) := h.row.cell (i := 0) (by omega)
theorem c1 (h : EpAt w x g vt E) : w.cell? ⟨x, 1, none⟩ = some (.slice (some ⟨g, 0, none⟩) E.ws.length E.ws.length) := h.row.cell (i := 1) (by omega)
theorem c2 (h : EpAt w x g vt E) : w.cell? ⟨x, 2, none⟩ = some vt := h.row.cell (i := 2) (by omega)
theorem wc (h : EpAt w x g vt E) {i : Nat} (hi : i < E.ws.length) : w.cell? ⟨g, i, none⟩ = some (.int .i64 (wAt E.ws i)) := h.ws.cell hi
theorem gen {S : Nat → Prop} (h : EpAt w x g vt E) (hu : Upto S w w') (hS : ∀ k, S k → ¬ EpS x g vt k) : EpAt w' x g vt E :=
  ⟨hu.row h.row (fun hs => hS _ hs (.inl rfl)), hu.row h.ws (fun hs => hS _ hs (.inr (.inl rfl))), hu.own h.wt (fun k hk hs => hS k hs (.inr (.inr hk))), h.gx, h.ok⟩
theorem upto (h : EpAt w x g vt E) (hu : Upto NoS w w') : EpAt w' x g vt E := h.gen hu (fun _ h => h.elim)
theorem alloc (h : EpAt w x g vt E) (o : Obj) : EpAt (w.alloc o) x g vt E := h.upto ((Upto.refl _ _).alloc o)
theorem drew (h : EpAt w x g vt E) : EpAt w.drew x g vt E := h.upto (Upto.refl _ _).drew
theorem drewN (h : EpAt w x g vt E) (n : Nat) : EpAt (w.drewN n) x g vt E := h.upto ((Upto.refl _ _).drewN n)
theorem vt_ne (h : EpAt w x g vt E) {k : Nat} (hk : vt.ownBlock = some k) : x < k ∧ k < w.heap.size := by have := h.wt.lt k hk; omega
end EpAt

theorem none_no (w : World) (x g : Nat) (vt : Value) (E : Ep) (h : EpAt w x g vt E) :
    Calls Try.prog 33 #[.pointer (some ⟨x, 0, none⟩)] w fun e w' => e = .returned (.bool false) ∧ w = w' := by
  have hc := h.c1
  have hp : ((E.ws.length : Int) == 0) = false := by have := h.ok.pos; rw [beq_eq_false_iff_ne]; omega
  clear h
  go_enter Try.func33, Try.ntmps33
  go_wp2
  go_ret
  exact ⟨rfl, rfl⟩
theorem none_nil (w : World) :
    Calls Try.prog 33 #[.pointer none] w fun e w' => e = .returned (.bool true) ∧ w = w' := by
  go_enter Try.func33, Try.ntmps33
  go_wp2
  go_ret
  exact ⟨rfl, rfl⟩
theorem none_zero (w : World) (x : Nat) (hc : w.cell? ⟨x, 1, none⟩ = some (.slice none 0 0)) :
    Calls Try.prog 33 #[.pointer (some ⟨x, 0, none⟩)] w fun e w' => e = .returned (.bool true) ∧ w = w' := by
  go_enter Try.func33, Try.ntmps33
  go_wp2
  go_ret
  exact ⟨rfl, rfl⟩

theorem Now_any (w : World) (x g : Nat) (vt : Value) (E : Ep) (h : EpAt w x g vt E) :
    Calls Try.prog 22 #[.pointer (some ⟨x, 0, none⟩)] w fun e w' => e = .returned (.int .i64 (E.now : Nat)) ∧ w = w' := by
  have hc := h.c0
  go_enter Try.func22, Try.ntmps22
  go_wp2_with (go_at_call 33; refine (none_no _ _ _ _ _ h).mono ?_; rintro e w' ⟨rfl, rfl⟩)
  go_ret
  exact ⟨rfl, rfl⟩
theorem Waiting_any (w : World) (x g : Nat) (vt : Value) (E : Ep) (h : EpAt w x g vt E) :
    Calls Try.prog 28 #[.pointer (some ⟨x, 0, none⟩)] w fun e w' => e = .returned (.int .i64 (E.wt.length : Nat)) ∧ w = w' := by
  obtain ⟨a, c, rfl, _⟩ := own_slice h.wt
  have hc := h.c2
  go_enter Try.func28, Try.ntmps28
  go_wp2_with (go_at_call 33; refine (none_no _ _ _ _ _ h).mono ?_; rintro e w' ⟨rfl, rfl⟩)
  go_ret
  exact ⟨rfl, rfl⟩

theorem Seen_any (w : World) (x g : Nat) (vt : Value) (E : Ep) (i : Int) (h : EpAt w x g vt E) :
    Calls Try.prog 26 #[.pointer (some ⟨x, 0, none⟩), .int .i64 i] w fun e w' => e = .returned (.int .i64 (seenI E i)) ∧ w = w' := by
  have hc := h.c1
  have hl := h.ok.len
  by_cases g1 : i < 0
  · have hr : seenI E i = -1 := by unfold seenI; rw [if_neg (by omega)]
    rw [hr]
    go_enter Try.func26, Try.ntmps26
    go_wp2_with (go_at_call 33; refine (none_no _ _ _ _ _ h).mono ?_; rintro e w' ⟨rfl, rfl⟩)
    go_ret
    exact ⟨rfl, rfl⟩
  · obtain ⟨n, rfl⟩ := Int.eq_ofNat_of_zero_le (by omega : 0 ≤ i)
    by_cases g2 : n < E.ws.length
    · have hr : seenI E n = wAt E.ws n := by unfold seenI; rw [if_pos (by omega)]; simp
      rw [hr]
      have hs := h.wc (i := n) g2
      go_enter Try.func26, Try.ntmps26
      go_wp2_with (go_at_call 33; refine (none_no _ _ _ _ _ h).mono ?_; rintro e w' ⟨rfl, rfl⟩)
      go_ret
      exact ⟨rfl, rfl⟩
    · have hr : seenI E n = -1 := by unfold seenI; rw [if_neg (by omega)]
      rw [hr]
      go_enter Try.func26, Try.ntmps26
      go_wp2_with (go_at_call 33; refine (none_no _ _ _ _ _ h).mono ?_; rintro e w' ⟨rfl, rfl⟩)
      go_ret
      exact ⟨rfl, rfl⟩
theorem In_any (w : World) (x g : Nat) (vt : Value) (E : Ep) (i : Int) (h : EpAt w x g vt E) :
    Calls Try.prog 24 #[.pointer (some ⟨x, 0, none⟩), .int .i64 i] w fun e w' => e = .returned (.bool (seenI E i != -1)) ∧ w = w' := by
  go_enter Try.func24, Try.ntmps24
  go_wp2_with (go_at_call 26; refine (Seen_any _ _ _ _ _ i h).mono ?_; rintro e w' ⟨rfl, rfl⟩)
  go_ret
  exact ⟨rfl, rfl⟩
end Go.Proofs.Ytmmhjibgmpdjoaa
