/- Epochs' announce, Enter, Leave, behind and Advance, walked. -/
import Derived.Test.YtmmhjibgmpdjoaaAt
namespace Go.Proofs.Ytmmhjibgmpdjoaa
open Go Go.RowKit Go.Deep Md

theorem wAt_set (ws : List Int) (n i : Nat) (v : Int) (h : n < ws.length) : wAt (ws.set n v) i = if i = n then v else wAt ws i := by
  unfold wAt
  by_cases e : i = n
  · subst e; simp [h]
  · rw [if_neg e]; simp [Ne.symm e]
theorem any_at {f : Int → Bool} {ws : List Int} : ws.any f = true ↔ ∃ i, i < ws.length ∧ f (wAt ws i) = true := by
  rw [List.any_eq_true]
  constructor
  · rintro ⟨v, hv, hf⟩
    obtain ⟨i, hi, rfl⟩ := List.getElem_of_mem hv
    exact ⟨i, hi, by simpa [wAt, hi] using hf⟩
  · rintro ⟨i, hi, hf⟩
    exact ⟨ws[i], List.getElem_mem hi, by simpa [wAt, hi] using hf⟩

/-- What a method leaves that makes no new row. -/
def EpTurn (x g : Nat) (vt : Value) (E' : Ep) (w : World) (v : Value) (e : Ending) (w' : World) : Prop := e = .returned v ∧ EpAt w' x g vt E' ∧ Upto (EpS x g vt) w w'

theorem EpAt.setW {w : World} {x g : Nat} {vt : Value} {E : Ep} (h : EpAt w x g vt E) {n : Nat} (hn : n < E.ws.length) {v : Int} (hv : -1 ≤ v ∧ v ≤ E.now) :
    EpAt (w.setCell ⟨g, n, none⟩ (.int .i64 v)) x g vt { E with ws := E.ws.set n v } := by
  have hu : Upto (· = g) w (w.setCell ⟨g, n, none⟩ (.int .i64 v)) := (Upto.refl (fun k => k = g) w).setB rfl _
  have hgx := h.gx
  refine ⟨?_, ?_, hu.own h.wt (fun k hk e => by have := h.vt_ne hk; omega), hgx, ⟨h.ok.now, by simpa using h.ok.pos, by simpa using h.ok.len, fun i => ?_, h.ok.many, h.ok.wt⟩⟩
  · have := hu.row h.row (by omega)
    simpa using this
  · have := (h.ws.set n (.int .i64 v)).congr (g := fun i => .int .i64 (wAt (E.ws.set n v) i)) (fun i _ => by
      rw [wAt_set _ _ _ _ hn]; split <;> rfl)
    simpa using this
  · show _ ≤ wAt (E.ws.set n v) i ∧ wAt (E.ws.set n v) i ≤ _
    rw [wAt_set _ _ _ _ hn]
    split
    · exact hv
    · exact h.ok.ws i

theorem announce_any (w : World) (x g : Nat) (vt : Value) (E : Ep) (i v : Int) (h : EpAt w x g vt E) (hv : -1 ≤ v ∧ v ≤ E.now) :
    Calls Try.prog 31 #[.pointer (some ⟨x, 0, none⟩), .int .i64 i, .int .i64 v] w (EpTurn x g vt (annSt E i v) w (.int .i64 (annE E i))) := by
  have hc := h.c1
  have hl := h.ok.len
  by_cases g0 : 0 ≤ i ∧ i < E.ws.length
  · rw [show annSt E i v = { E with ws := E.ws.set i.toNat v } from if_pos g0, show annE E i = 0 from if_pos g0]
    obtain ⟨n, rfl⟩ := Int.eq_ofNat_of_zero_le g0.1
    have g2 : n < E.ws.length := by omega
    simp only [Int.toNat_natCast]
    have hs := h.wc (i := n) g2
    have hf := h.ws.frozen n
    have R := Lib.hid (h.setW g2 hv)
    clear g0
    go_enter Try.func31, Try.ntmps31
    go_wp2_with (go_at_call 33; refine (none_no _ _ _ _ _ h).mono ?_; rintro e w' ⟨rfl, rfl⟩)
    go_ret
    exact ⟨rfl, R.out, (Upto.refl (EpS x g vt) w).setB (.inr (.inl rfl)) _⟩
  · rw [show annSt E i v = E from if_neg g0, show annE E i = 2 from if_neg g0]
    by_cases g1 : i < 0
    · clear g0
      go_enter Try.func31, Try.ntmps31
      go_wp2_with (go_at_call 33; refine (none_no _ _ _ _ _ h).mono ?_; rintro e w' ⟨rfl, rfl⟩)
      go_ret
      exact ⟨rfl, h, Upto.refl _ _⟩
    · obtain ⟨n, rfl⟩ := Int.eq_ofNat_of_zero_le (by omega : 0 ≤ i)
      have g2 : ¬ n < E.ws.length := by omega
      clear g0
      go_enter Try.func31, Try.ntmps31
      go_wp2_with (go_at_call 33; refine (none_no _ _ _ _ _ h).mono ?_; rintro e w' ⟨rfl, rfl⟩)
      go_ret
      exact ⟨rfl, h, Upto.refl _ _⟩
theorem Enter_any (w : World) (x g : Nat) (vt : Value) (E : Ep) (i : Int) (h : EpAt w x g vt E) :
    Calls Try.prog 11 #[.pointer (some ⟨x, 0, none⟩), .int .i64 i] w (EpTurn x g vt (annSt E i E.now) w (.int .i64 (annE E i))) := by
  go_enter Try.func11, Try.ntmps11
  go_wp2_with (first
    | (go_at_call 22; refine (Now_any _ _ _ _ _ h).mono ?_; rintro e w' ⟨rfl, rfl⟩)
    | (go_at_call 31; refine (announce_any _ _ _ _ _ i E.now h (by omega)).mono ?_; rintro e w1 ⟨rfl, h1, hu⟩))
  go_ret
  exact ⟨rfl, h1, hu⟩
theorem Leave_any (w : World) (x g : Nat) (vt : Value) (E : Ep) (i : Int) (h : EpAt w x g vt E) :
    Calls Try.prog 13 #[.pointer (some ⟨x, 0, none⟩), .int .i64 i] w (EpTurn x g vt (annSt E i (-1)) w (.int .i64 (annE E i))) := by
  go_enter Try.func13, Try.ntmps13
  go_wp2_with (go_at_call 31; refine (announce_any _ _ _ _ _ i (-1) h (by omega)).mono ?_; rintro e w1 ⟨rfl, h1, hu⟩)
  go_ret
  exact ⟨rfl, h1, hu⟩

theorem behind_any (w : World) (x g : Nat) (vt : Value) (E : Ep) (v : Int) (q : Bool) (h : EpAt w x g vt E) (hq : behB E.now v = q) :
    Calls Try.prog 35 #[.pointer (some ⟨x, 0, none⟩), .int .i64 v] w fun e w' => e = .returned (.bool q) ∧ w = w' := by
  have hc := h.c0
  subst hq
  by_cases e1 : v = -1
  · subst e1
    rw [show behB E.now (-1) = false from rfl]
    go_enter Try.func35, Try.ntmps35
    go_wp2
    go_ret
    exact ⟨rfl, rfl⟩
  · have e2 : (v != -1) = true := by simpa using e1
    have hb : behB E.now v = (v != (E.now : Int)) := by unfold behB; rw [e2]; rfl
    rw [hb]
    clear e1 hb
    go_enter Try.func35, Try.ntmps35
    go_wp2
    go_ret
    exact ⟨rfl, rfl⟩

abbrev behF (x : Nat) : Value := .func (.func 35) #[.pointer (some ⟨x, 0, none⟩)] #[]
def SomeNat (w : World) (e : Ending) (w' : World) : Prop := ∃ k : Nat, e = .returned (.int .i64 k) ∧ w = w'
theorem Index_no (w : World) (x g : Nat) (vt : Value) (E : Ep) (h : EpAt w x g vt E) (hno : ∀ i, i < E.ws.length → behB E.now (wAt E.ws i) = false) :
    Calls Try.prog 41 #[.slice (some ⟨g, 0, none⟩) E.ws.length E.ws.length, behF x] w fun e w' => e = .returned (.int .i64 (-1)) ∧ w = w' := by
  have hl := h.ok.len
  have HN := Lib.hid hno
  clear hno
  go_enter Try.func41, Try.ntmps41
  go_wp2_with fail
  go_loopw [5, 8] (fun _ i wr => ∃ k : Nat, k ≤ E.ws.length ∧ i = .int .i64 k ∧ wr = w) (fun _ i _ => E.ws.length - (intOf i).toNat)
  case atStart => exact ⟨0, by omega, rfl, rfl⟩
  case round =>
    obtain ⟨k, hk, rfl, rfl⟩ := hrel
    by_cases hlt : k < E.ws.length
    · have hs := h.wc (i := k) hlt
      go_wp2_with (go_at_call 35; refine (behind_any _ _ _ _ _ _ false h (HN.out k hlt)).mono ?_; rintro e w1 ⟨rfl, rfl⟩)
      go_roundw
      case rel => first | exact ⟨k + 1, by omega, by go_num, rfl⟩ | exact ⟨k + 1, by omega, by go_num, trivial⟩
      case measure => simp [intOf]; omega
    · go_wp2
      go_ret
      exact ⟨rfl, rfl⟩
theorem Index_yes (w : World) (x g : Nat) (vt : Value) (E : Ep) (h : EpAt w x g vt E) (hyes : ∃ i, i < E.ws.length ∧ behB E.now (wAt E.ws i) = true) :
    Calls Try.prog 41 #[.slice (some ⟨g, 0, none⟩) E.ws.length E.ws.length, behF x] w (SomeNat w) := by
  have hl := h.ok.len
  obtain ⟨i, hi, hb⟩ := hyes
  have HB := Lib.hid hb
  clear hb
  go_enter Try.func41, Try.ntmps41
  go_wp2_with fail
  go_loopw [5, 8] (fun _ v wr => ∃ k : Nat, k ≤ i ∧ v = .int .i64 k ∧ wr = w) (fun _ v _ => E.ws.length - (intOf v).toNat)
  case atStart => exact ⟨0, by omega, rfl, rfl⟩
  case round =>
    obtain ⟨k, hk, rfl, rfl⟩ := hrel
    have hlt : k < E.ws.length := by omega
    have hs := h.wc (i := k) hlt
    cases hq : behB E.now (wAt E.ws k)
    · have hne : k ≠ i := fun e => by rw [e, HB.out] at hq; cases hq
      have HQ := Lib.hid hq
      clear hq
      go_wp2_with (go_at_call 35; refine (behind_any _ _ _ _ _ _ false h HQ.out).mono ?_; rintro e w1 ⟨rfl, rfl⟩)
      go_roundw
      case rel => first | exact ⟨k + 1, by omega, by go_num, rfl⟩ | exact ⟨k + 1, by omega, by go_num, trivial⟩
      case measure => simp [intOf]; omega
    · have HQ := Lib.hid hq
      clear hq
      go_wp2_with (go_at_call 35; refine (behind_any _ _ _ _ _ _ true h HQ.out).mono ?_; rintro e w1 ⟨rfl, rfl⟩)
      go_ret
      exact ⟨k, rfl, rfl⟩
theorem Contains_any (w : World) (x g : Nat) (vt : Value) (E : Ep) (q : Bool) (h : EpAt w x g vt E) (hq : E.ws.any (behB E.now) = q) :
    Calls Try.prog 34 #[.slice (some ⟨g, 0, none⟩) E.ws.length E.ws.length, behF x] w fun e w' => e = .returned (.bool q) ∧ w = w' := by
  cases q
  · have hno : ∀ i, i < E.ws.length → behB E.now (wAt E.ws i) = false := fun i hi => by
      cases hb : behB E.now (wAt E.ws i)
      · rfl
      · rw [any_at.2 ⟨i, hi, hb⟩] at hq; cases hq
    go_enter Try.func34, Try.ntmps34
    go_wp2_with (go_at_call 41; refine (Index_no _ _ _ _ _ h hno).mono ?_; rintro e w1 ⟨rfl, rfl⟩)
    go_ret
    exact ⟨rfl, rfl⟩
  · have hyes := any_at.1 hq
    clear hq
    go_enter Try.func34, Try.ntmps34
    go_wp2_with (go_at_call 41; refine (Index_yes _ _ _ _ _ h hyes).mono ?_; rintro e w1 ⟨k, rfl, rfl⟩)
    go_ret
    exact ⟨rfl, rfl⟩

theorem EpAt.setNow {w : World} {x g : Nat} {vt : Value} {E : Ep} (h : EpAt w x g vt E) (hn : E.now < 1000000) :
    EpAt (w.setCell ⟨x, 0, none⟩ (.int .i64 ((E.now : Int) + 1))) x g vt { E with now := E.now + 1 } := by
  have hu : Upto (· = x) w (w.setCell ⟨x, 0, none⟩ (.int .i64 ((E.now : Int) + 1))) := (Upto.refl (fun k => k = x) w).setB rfl _
  have hgx := h.gx
  refine ⟨(h.row.set 0 _).congr fun i hi => ?_, hu.row h.ws (by omega), hu.own h.wt (fun k hk e => by have := h.vt_ne hk; omega), hgx, ⟨by show E.now + 1 ≤ _; omega, h.ok.pos, h.ok.len, fun i => ?_, h.ok.many, fun j hj => ?_⟩⟩
  · simp only [epF]
    split <;> first | rfl | (congr 1)
  · have := h.ok.ws i; exact ⟨this.1, by have := this.2; show wAt E.ws i ≤ ((E.now + 1 : Nat) : Int); omega⟩
  · have := h.ok.wt j hj; exact ⟨this.1, Nat.le_trans this.2 (Nat.le_succ _)⟩
theorem Advance_any (w : World) (x g : Nat) (vt : Value) (E : Ep) (q : Bool) (h : EpAt w x g vt E) (hn : E.now < 1000000) (hq : advB E = q) :
    Calls Try.prog 15 #[.pointer (some ⟨x, 0, none⟩)] w (EpTurn x g vt (advSt E) w (.bool q)) := by
  have c0 := h.c0
  have c1 := h.c1
  have f0 := h.row.frozen 0
  cases q
  · have ha : E.ws.any (behB E.now) = true := by unfold advB at hq; simpa using hq
    rw [show advSt E = E by unfold advSt; rw [hq]; rfl]
    have HA := Lib.hid ha
    clear ha hq
    go_enter Try.func15, Try.ntmps15
    go_wp2_with (first
      | (go_at_call 33; refine (none_no _ _ _ _ _ h).mono ?_; rintro e w' ⟨rfl, rfl⟩)
      | (go_at_call 34; refine (Contains_any _ _ _ _ _ true h HA.out).mono ?_; rintro e w' ⟨rfl, rfl⟩))
    go_ret
    exact ⟨rfl, h, Upto.refl _ _⟩
  · have ha : E.ws.any (behB E.now) = false := by unfold advB at hq; simpa using hq
    rw [show advSt E = { E with now := E.now + 1 } by unfold advSt; rw [hq]; rfl]
    have HA := Lib.hid ha
    have R := Lib.hid (h.setNow hn)
    clear ha hq
    go_enter Try.func15, Try.ntmps15
    go_wp2_with (first
      | (go_at_call 33; refine (none_no _ _ _ _ _ h).mono ?_; rintro e w' ⟨rfl, rfl⟩)
      | (go_at_call 34; refine (Contains_any _ _ _ _ _ false h HA.out).mono ?_; rintro e w' ⟨rfl, rfl⟩))
    go_ret
    exact ⟨rfl, R.out, (Upto.refl (EpS x g vt) w).setB (.inl rfl) _⟩
end Go.Proofs.Ytmmhjibgmpdjoaa
