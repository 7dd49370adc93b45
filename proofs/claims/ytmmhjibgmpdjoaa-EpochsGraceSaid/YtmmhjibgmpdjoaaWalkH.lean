/- Epochs that a call has made itself: all that is done with them; the chapter's examples. -/
import Derived.Test.YtmmhjibgmpdjoaaWalkG
namespace Go.Proofs.Ytmmhjibgmpdjoaa
open Go Go.RowKit Go.Deep Md

/-- Epochs that were made since the world w0. -/
structure Wd (w0 w : World) (x g : Nat) (vt : Value) (E : Ep) : Prop where
  at_ : EpAt w x g vt E
  bel : Upto NoS w0 w
  hg : w0.heap.size ≤ g
  hv : ∀ k, vt.ownBlock = some k → w0.heap.size ≤ k
/-- What is done with them leaves. -/
def WdO (w0 w : World) (x g : Nat) (vt : Value) (E' : Ep) (v : Value) (e : Ending) (w' : World) : Prop :=
  e = .returned v ∧ ∃ vt', Wd w0 w' x g vt' E' ∧ Upto (EpS x g vt) w w'
namespace Wd
variable {w0 w w' : World} {x g : Nat} {vt : Value} {E E' : Ep}
theorem hx (h : Wd w0 w x g vt E) : w0.heap.size ≤ x := by have := h.at_.gx; have := h.hg; omega
theorem none_of (h : Wd w0 w x g vt E) (hu : Upto (EpS x g vt) w w') : Upto NoS w0 w' :=
  h.bel.trans' hu (fun i hi hs => by
    rcases hs with e | e | e
    · have := h.hx; omega
    · have := h.hg; omega
    · have := h.hv i e; omega)
theorem gen {S : Nat → Prop} (h : Wd w0 w x g vt E) (hu : Upto S w w') (hS : ∀ k, S k → ¬ EpS x g vt k) (h0 : ∀ k, S k → w0.heap.size ≤ k) : Wd w0 w' x g vt E :=
  ⟨h.at_.gen hu hS, h.bel.trans' hu (fun i hi hs => by have := h0 i hs; omega), h.hg, h.hv⟩
theorem upto (h : Wd w0 w x g vt E) (hu : Upto NoS w w') : Wd w0 w' x g vt E := ⟨h.at_.upto hu, h.bel.trans hu, h.hg, h.hv⟩
theorem alloc (h : Wd w0 w x g vt E) (o : Obj) : Wd w0 (w.alloc o) x g vt E := h.upto ((Upto.refl _ _).alloc o)
theorem drew (h : Wd w0 w x g vt E) : Wd w0 w.drew x g vt E := h.upto (Upto.refl _ _).drew
theorem turn {v : Value} {e : Ending} (h : Wd w0 w x g vt E) (ht : EpTurn x g vt E' w v e w') : WdO w0 w x g vt E' v e w' :=
  ⟨ht.1, vt, ⟨ht.2.1, h.none_of ht.2.2, h.hg, h.hv⟩, ht.2.2⟩
theorem new {v : Value} {e : Ending} (h : Wd w0 w x g vt E) (ht : EpNew x g vt E' w v e w') : WdO w0 w x g vt E' v e w' := by
  obtain ⟨he, vt', h1, h2, h3⟩ := ht
  refine ⟨he, vt', ⟨h1, h.none_of h2, h.hg, fun k hk => ?_⟩, h2⟩
  rcases h3 k hk with h4 | h4
  · exact h.hv k h4
  · have := h.bel.size; omega
end Wd
section
variable {w0 w : World} {x g : Nat} {vt : Value} {E E' : Ep}
theorem DNew (n : Nat) (h1 : 1 ≤ n) (h2 : n ≤ 64) : Calls Try.prog 8 #[.int .i64 n] w fun e w' => ∃ x g, e = .returned (.tuple #[.pointer (some ⟨x, 0, none⟩), .int .i64 0]) ∧ Wd w w' x g (.slice none 0 0) (fresh n) :=
  (New_ok w n h1 h2).mono fun _ _ ⟨x, g, he, h1, h2, h3⟩ => ⟨x, g, he, h1, h2, h3, fun k hk => by simp [Value.ownBlock] at hk⟩
theorem DEnter (h : Wd w0 w x g vt E) (i : Int) {v : Int} (hE : annSt E i E.now = E') (hv : annE E i = v) : Calls Try.prog 11 #[.pointer (some ⟨x, 0, none⟩), .int .i64 i] w (WdO w0 w x g vt E' (.int .i64 v)) :=
  hE ▸ hv ▸ (Enter_any w x g vt E i h.at_).mono fun _ _ ht => h.turn ht
theorem DLeave (h : Wd w0 w x g vt E) (i : Int) {v : Int} (hE : annSt E i (-1) = E') (hv : annE E i = v) : Calls Try.prog 13 #[.pointer (some ⟨x, 0, none⟩), .int .i64 i] w (WdO w0 w x g vt E' (.int .i64 v)) :=
  hE ▸ hv ▸ (Leave_any w x g vt E i h.at_).mono fun _ _ ht => h.turn ht
theorem DAdv (h : Wd w0 w x g vt E) {q : Bool} (hn : E.now < 1000000) (hE : advSt E = E') (hv : advB E = q) : Calls Try.prog 15 #[.pointer (some ⟨x, 0, none⟩)] w (WdO w0 w x g vt E' (.bool q)) :=
  hE ▸ (Advance_any w x g vt E q h.at_ hn hv).mono fun _ _ ht => h.turn ht
theorem DDef (h : Wd w0 w x g vt E) (s : Int) {v : Int} (h1 : -9223372036854775808 ≤ s) (h2 : s ≤ 9223372036854775807) (hm : E.wt.length < 1000000) (hE : defSt E s = E') (hv : defE E s = v) : Calls Try.prog 20 #[.pointer (some ⟨x, 0, none⟩), .int .i64 s] w (WdO w0 w x g vt E' (.int .i64 v)) :=
  hE ▸ hv ▸ (Defer_any w x g vt E s h.at_ h1 h2 hm).mono fun _ _ ht => h.new ht
/-- What Ripe tells, and leaves. -/
def WdR (w0 w : World) (x g : Nat) (vt : Value) (E' : Ep) (r : List Nat) (e : Ending) (w' : World) : Prop :=
  ∃ l vt', e = .returned l ∧ w'.ownsRow w.heap.size 3 1 l r.length (ncl r) ∧ Wd w0 w' x g vt' E' ∧ Upto (EpS x g vt) w w'
theorem DRipe (h : Wd w0 w x g vt E) {r : List Nat} (hE : ripeSt E = E') (hr : ripe E = r) : Calls Try.prog 18 #[.pointer (some ⟨x, 0, none⟩)] w (WdR w0 w x g vt E' r) := by
  subst hE hr
  refine (Ripe_any w x g vt E h.at_).mono ?_
  rintro e w' ⟨l, vt', he, ho, h1, h2, h3⟩
  refine ⟨l, vt', he, ho, ⟨h1, h.none_of h2, h.hg, fun k hk => ?_⟩, h2⟩
  rcases h3 k hk with h4 | h4
  · exact h.hv k h4
  · have := h.bel.size; omega
theorem DNow (h : Wd w0 w x g vt E) {n : Int} (hn : (E.now : Int) = n) : Calls Try.prog 22 #[.pointer (some ⟨x, 0, none⟩)] w fun e w' => e = .returned (.int .i64 n) ∧ w = w' := hn ▸ Now_any w x g vt E h.at_
theorem DSeen (h : Wd w0 w x g vt E) (i : Int) {n : Int} (hn : seenI E i = n) : Calls Try.prog 26 #[.pointer (some ⟨x, 0, none⟩), .int .i64 i] w fun e w' => e = .returned (.int .i64 n) ∧ w = w' := hn ▸ Seen_any w x g vt E i h.at_
theorem DIn (h : Wd w0 w x g vt E) (i : Int) {q : Bool} (hq : (seenI E i != -1) = q) : Calls Try.prog 24 #[.pointer (some ⟨x, 0, none⟩), .int .i64 i] w fun e w' => e = .returned (.bool q) ∧ w = w' := hq ▸ In_any w x g vt E i h.at_
theorem DWait (h : Wd w0 w x g vt E) {n : Int} (hn : (E.wt.length : Int) = n) : Calls Try.prog 28 #[.pointer (some ⟨x, 0, none⟩)] w fun e w' => e = .returned (.int .i64 n) ∧ w = w' := hn ▸ Waiting_any w x g vt E h.at_
end

theorem ep_eq {a b : Ep} (h1 : a.now = b.now) (h2 : a.ws = b.ws) (h3 : a.wt = b.wt) : a = b := by cases a; cases b; simp_all
set_option maxRecDepth 100000 in
set_option maxHeartbeats 1000000 in
theorem waited_any (w : World) : Calls Try.prog 7 #[] w (Told (.bool true) w) := by
  go_enter Try.func7, Try.ntmps7
  go_wp2_with fail
  refine (DNew 2 (by omega) (by omega)).mono ?_
  rintro e w1 ⟨x, g, rfl, h1⟩
  go_wp2_with fail
  refine (DEnter h1 0 (E' := ⟨0, [0, -1], []⟩) (v := 0) (ep_eq (by decide) (by decide) (by decide)) (by decide)).mono ?_
  rintro e w2 ⟨rfl, v2, h2, _⟩
  go_wp2_with fail
  refine (DDef h2 7 (E' := ⟨0, [0, -1], [(7, 0)]⟩) (v := 0) (by omega) (by omega) (by decide) (ep_eq (by decide) (by decide) (by decide)) (by decide)).mono ?_
  rintro e w3 ⟨rfl, v3, h3, _⟩
  go_wp2_with fail
  refine (DAdv h3 (E' := ⟨1, [0, -1], [(7, 0)]⟩) (q := true) (by decide) (ep_eq (by decide) (by decide) (by decide)) (by decide)).mono ?_
  rintro e w4 ⟨rfl, v4, h4, _⟩
  go_wp2_with fail
  refine (DAdv h4 (E' := ⟨1, [0, -1], [(7, 0)]⟩) (q := false) (by decide) (ep_eq (by decide) (by decide) (by decide)) (by decide)).mono ?_
  rintro e w5 ⟨rfl, v5, h5, _⟩
  go_wp2_with fail
  refine (DRipe h5 (E' := ⟨1, [0, -1], [(7, 0)]⟩) (r := []) (ep_eq (by decide) (by decide) (by decide)) (by decide)).mono ?_
  rintro e w6 ⟨l6, v6, rfl, ho6, h6, _⟩
  obtain ⟨a6, c6, rfl, _⟩ := own_slice ho6
  simp only [List.length_nil] at ho6 ⊢
  go_wp2_with fail
  refine (DLeave h6 0 (E' := ⟨1, [-1, -1], [(7, 0)]⟩) (v := 0) (ep_eq (by decide) (by decide) (by decide)) (by decide)).mono ?_
  rintro e w7 ⟨rfl, v7, h7, _⟩
  go_wp2_with fail
  refine (DAdv h7 (E' := ⟨2, [-1, -1], [(7, 0)]⟩) (q := true) (by decide) (ep_eq (by decide) (by decide) (by decide)) (by decide)).mono ?_
  rintro e w8 ⟨rfl, v8, h8, _⟩
  go_wp2_with fail
  refine (DRipe h8 (E' := ⟨2, [-1, -1], []⟩) (r := [7]) (ep_eq (by decide) (by decide) (by decide)) (by decide)).mono ?_
  rintro e w9 ⟨l9, v9, rfl, ho9, h9, _⟩
  obtain ⟨q9, c9, rfl, _, _⟩ := own_form ho9 (by decide)
  have hc := ho9.cells (g := q9) rfl 0 (.int .i64 7) rfl
  rw [Addr.add_lit] at hc
  simp only [List.length_cons, List.length_nil, Nat.zero_add] at hc ho9 ⊢
  go_wp2_with (first
    | (go_at_call 22; refine (DNow h9 (n := 2) rfl).mono ?_; rintro e w' ⟨rfl, rfl⟩)
    | (go_at_call 28; refine (DWait h9 (n := 0) rfl).mono ?_; rintro e w' ⟨rfl, rfl⟩))
  go_ret
  exact ⟨rfl, h9.bel⟩
end Go.Proofs.Ytmmhjibgmpdjoaa
