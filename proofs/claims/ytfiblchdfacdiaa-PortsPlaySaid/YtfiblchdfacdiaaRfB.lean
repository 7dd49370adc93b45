/- The document's Owner, Of and less, walked. -/
import Derived.Test.YtfiblchdfacdiaaRfA
namespace Go.Proofs.Ytfiblchdfacdiaa
open Go Go.RowKit Go.Deep Go.Maps

theorem drewN_two' (w : World) (n k : Nat) : (w.drewN n).drewN k = w.drewN (n + k) := by unfold World.drewN; simp [Nat.add_assoc]
/-- The place that a look tells. -/
def vX (L : List Rw) (P : Rw → Bool) : Int := if L.findIdx P < L.length then (L.findIdx P : Nat) else -1
theorem fX_yes {L : List Rw} {P : Rw → Bool} {k : Nat} (hk : k < L.length) (hle : k ≤ L.findIdx P) (h : P (rwAt L k) = true) : L.findIdx P = k := by
  rw [rwAt_get L hk] at h
  rcases Nat.lt_or_ge k (L.findIdx P) with h1 | h1
  · have := List.not_of_lt_findIdx h1
    simp [h] at this
  · omega
theorem fX_no {L : List Rw} {P : Rw → Bool} {k : Nat} (hk : k < L.length) (hle : k ≤ L.findIdx P) (h : P (rwAt L k) = false) : k + 1 ≤ L.findIdx P := by
  rw [rwAt_get L hk] at h
  rcases Nat.lt_or_ge k (L.findIdx P) with h1 | h1
  · exact h1
  · have e : L.findIdx P = k := by omega
    have := List.findIdx_getElem (xs := L) (p := P) (w := by omega)
    simp [e, h] at this
def pO (p a b : Nat) (r : Rw) : Bool := r.p == p && r.oa == a && r.ob == b
def pI (p a b : Nat) (r : Rw) : Bool := r.p == p && r.ia == a && r.ib == b

set_option maxRecDepth 100000 in
set_option maxHeartbeats 1000000 in
theorem Owner_r (w : World) (base y : Nat) (ad : Option Addr) (c : Nat) (L : List Rw) (p a b : Nat) (h : RIn w base y ad c L) :
    Calls Try.prog 27 #[.pointer (some ⟨y, 0, none⟩), .int .u8 p, ev a b] w (Told (.int .i64 (vX L (pO p a b))) w) := by
  have hU : Upto NoS w (w.alloc (.cells #[.int .u32 (a : Nat), .int .u16 (b : Nat)] 26)) := (Upto.refl _ w).alloc _
  have n0 := new_1 w #[.int .u32 (a : Nat), .int .u16 (b : Nat)] 26 0 (.int .u32 (a : Nat)) rfl
  have n1 := new_1 w #[.int .u32 (a : Nat), .int .u16 (b : Nat)] 26 1 (.int .u16 (b : Nat)) rfl
  have h1 := h.upto hU
  have hc := h1.c0
  have hl := h.many
  have HL := Lib.hid h1
  clear h h1
  go_enter Try.func27, Try.ntmps27
  go_wp2
  generalize w.alloc (.cells #[.int .u32 (a : Nat), .int .u16 (b : Nat)] 26) = W at n0 n1 hc HL hU ⊢
  go_loopw [7] (fun i wr => ∃ (k n : Nat), k ≤ L.length ∧ i = .int .i64 k ∧ wr = W.drewN n ∧ Hid (k ≤ L.findIdx (pO p a b))) (fun i _ => L.length - (intOf i).toNat)
  case atStart => exact ⟨0, 0, by omega, rfl, rfl, Lib.hid (by omega)⟩
  case round =>
    obtain ⟨k, n, hk, rfl, rfl, HE⟩ := hrel
    by_cases hlt : k < L.length
    · obtain ⟨q, rfl, d0, d1, d2, d3, d4, d5, d6⟩ := HL.out.at_ hlt
      have z0 : (0 : Int) ≤ (k : Int) := by omega
      have z1 : (k : Int) < (L.length : Int) := by omega
      have hno := fun e => fX_no hlt HE.out (P := pO p a b) e
      have hye := fun e => fX_yes hlt HE.out (P := pO p a b) e
      obtain ⟨⟨p', oa', oq', ia', ib', lv', hd'⟩, hrk⟩ : ∃ r, rwAt L k = r := ⟨_, rfl⟩
      rw [hrk] at d0 d1 d2 d3 d4 d5 d6 hno hye
      simp only [pO] at d0 d1 d2 d3 d4 d5 d6 hno hye
      clear hrk d5 d6
      by_cases hp : p' = p
      · subst hp
        have q5 : ((p' : Int) == (p' : Int)) = true := by simp
        have hne := fun w' => eq26 w' oa' oq' a b
        have hgu := fun w' x y => guard26e w' x y oa' oq' a b
        rw [beq_self_eq_true, Bool.true_and] at hno hye
        cases hq : (oa' == a && oq' == b)
        · rw [hq] at hne
          have HQ := Lib.hid (hno hq)
          clear hq hno hye
          go_wp2_with fail
          go_quiet (fail)
          go_wp2
          go_roundw
          case rel => exact ⟨k + 1, n + nq, by omega, by go_num, (by first | rfl | exact drewN_two' W n nq), HQ⟩
          case measure => simp [intOf]; omega
        · rw [hq] at hne
          have HQ := Lib.hid (hye hq)
          have hv : vX L (pO p' a b) = (k : Nat) := by unfold vX; rw [HQ.out, if_pos hlt]
          rw [hv]
          clear hq hv hno hye
          go_wp2_with fail
          go_quiet (fail)
          go_wp2
          go_ret
          exact ⟨rfl, (hU.drewN _).drewN _⟩
      · have q5 : ((p' : Int) == (p : Int)) = false := by simp; omega
        have q6 : (p' == p) = false := by simpa using hp
        have HQ := Lib.hid (hno (by rw [q6]; rfl))
        clear hno hye
        go_wp2_with fail
        go_quiet (fail)
        go_wp2
        go_roundw
        case rel => exact ⟨k + 1, n + nq, by omega, by go_num, (by first | rfl | exact drewN_two' W n nq), HQ⟩
        case measure => simp [intOf]; omega
    · obtain rfl : k = L.length := by omega
      have hv : vX L (pO p a b) = -1 := by unfold vX; rw [if_neg (by have := HE.out; omega)]
      have HV := Lib.hid hv
      clear hv
      go_wp2
      go_ret
      exact ⟨by rw [HV.out]; rfl, hU.drewN _⟩

set_option maxRecDepth 100000 in
set_option maxHeartbeats 1000000 in
theorem Of_r (w : World) (base y : Nat) (ad : Option Addr) (c : Nat) (L : List Rw) (p a b : Nat) (h : RIn w base y ad c L) :
    Calls Try.prog 26 #[.pointer (some ⟨y, 0, none⟩), .int .u8 p, ev a b] w (Told (.int .i64 (vX L (pI p a b))) w) := by
  have hU : Upto NoS w (w.alloc (.cells #[.int .u32 (a : Nat), .int .u16 (b : Nat)] 26)) := (Upto.refl _ w).alloc _
  have n0 := new_1 w #[.int .u32 (a : Nat), .int .u16 (b : Nat)] 26 0 (.int .u32 (a : Nat)) rfl
  have n1 := new_1 w #[.int .u32 (a : Nat), .int .u16 (b : Nat)] 26 1 (.int .u16 (b : Nat)) rfl
  have h1 := h.upto hU
  have hc := h1.c0
  have hl := h.many
  have HL := Lib.hid h1
  clear h h1
  go_enter Try.func26, Try.ntmps26
  go_wp2
  generalize w.alloc (.cells #[.int .u32 (a : Nat), .int .u16 (b : Nat)] 26) = W at n0 n1 hc HL hU ⊢
  go_loopw [7] (fun i wr => ∃ (k n : Nat), k ≤ L.length ∧ i = .int .i64 k ∧ wr = W.drewN n ∧ Hid (k ≤ L.findIdx (pI p a b))) (fun i _ => L.length - (intOf i).toNat)
  case atStart => exact ⟨0, 0, by omega, rfl, rfl, Lib.hid (by omega)⟩
  case round =>
    obtain ⟨k, n, hk, rfl, rfl, HE⟩ := hrel
    by_cases hlt : k < L.length
    · obtain ⟨q, rfl, d0, d1, d2, d3, d4, d5, d6⟩ := HL.out.at_ hlt
      have z0 : (0 : Int) ≤ (k : Int) := by omega
      have z1 : (k : Int) < (L.length : Int) := by omega
      have hno := fun e => fX_no hlt HE.out (P := pI p a b) e
      have hye := fun e => fX_yes hlt HE.out (P := pI p a b) e
      obtain ⟨⟨p', oa', oq', ia', ib', lv', hd'⟩, hrk⟩ : ∃ r, rwAt L k = r := ⟨_, rfl⟩
      rw [hrk] at d0 d1 d2 d3 d4 d5 d6 hno hye
      simp only [pI] at d0 d1 d2 d3 d4 d5 d6 hno hye
      clear hrk d5 d6
      by_cases hp : p' = p
      · subst hp
        have q5 : ((p' : Int) == (p' : Int)) = true := by simp
        have hne := fun w' => eq26 w' ia' ib' a b
        have hgu := fun w' x y => guard26e w' x y ia' ib' a b
        rw [beq_self_eq_true, Bool.true_and] at hno hye
        cases hq : (ia' == a && ib' == b)
        · rw [hq] at hne
          have HQ := Lib.hid (hno hq)
          clear hq hno hye
          go_wp2_with fail
          go_quiet (fail)
          go_wp2
          go_roundw
          case rel => exact ⟨k + 1, n + nq, by omega, by go_num, (by first | rfl | exact drewN_two' W n nq), HQ⟩
          case measure => simp [intOf]; omega
        · rw [hq] at hne
          have HQ := Lib.hid (hye hq)
          have hv : vX L (pI p' a b) = (k : Nat) := by unfold vX; rw [HQ.out, if_pos hlt]
          rw [hv]
          clear hq hv hno hye
          go_wp2_with fail
          go_quiet (fail)
          go_wp2
          go_ret
          exact ⟨rfl, (hU.drewN _).drewN _⟩
      · have q5 : ((p' : Int) == (p : Int)) = false := by simp; omega
        have q6 : (p' == p) = false := by simpa using hp
        have HQ := Lib.hid (hno (by rw [q6]; rfl))
        clear hno hye
        go_wp2_with fail
        go_quiet (fail)
        go_wp2
        go_roundw
        case rel => exact ⟨k + 1, n + nq, by omega, by go_num, (by first | rfl | exact drewN_two' W n nq), HQ⟩
        case measure => simp [intOf]; omega
    · obtain rfl : k = L.length := by omega
      have hv : vX L (pI p a b) = -1 := by unfold vX; rw [if_neg (by have := HE.out; omega)]
      have HV := Lib.hid hv
      clear hv
      go_wp2
      go_ret
      exact ⟨by rw [HV.out]; rfl, hU.drewN _⟩

theorem less_r (w : World) (t u : Rw) : Calls Try.prog 63 #[rwV t, rwV u] w (Told (.bool (rlt t u)) w) := by
  have hU : Upto NoS w ((w.alloc (.cells #[.int .u8 (t.p : Nat), .int .u32 (t.oa : Nat), .int .u16 (t.ob : Nat), .int .u32 (t.ia : Nat), .int .u16 (t.ib : Nat), .int .i64 (t.live : Nat), .int .i64 (t.held : Nat)] 83)).alloc (.cells #[.int .u8 (u.p : Nat), .int .u32 (u.oa : Nat), .int .u16 (u.ob : Nat), .int .u32 (u.ia : Nat), .int .u16 (u.ib : Nat), .int .i64 (u.live : Nat), .int .i64 (u.held : Nat)] 83)) := ((Upto.refl _ w).alloc _).alloc _
  obtain ⟨p, oa, ob, ia, ib, lv, hd⟩ := t
  obtain ⟨p', oa', ob', ia', ib', lv', hd'⟩ := u
  by_cases h1 : p = p'
  · have i1 : ((p : Int) != (p' : Int)) = false := by simp; omega
    by_cases h2 : oa = oa'
    · have i2 : ((oa : Int) != (oa' : Int)) = false := by simp; omega
      have hv : rlt ⟨p, oa, ob, ia, ib, lv, hd⟩ ⟨p', oa', ob', ia', ib', lv', hd'⟩ = decide ((ob : Int) < (ob' : Int)) := by
        simp only [rlt]
        rw [Bool.eq_iff_iff]
        simp only [decide_eq_true_eq]
        omega
      rw [hv]
      clear hv h1 h2
      go_enter Try.func63, Try.ntmps63
      go_wp2
      go_ret
      exact ⟨by simp, hU⟩
    · have i2 : ((oa : Int) != (oa' : Int)) = true := by simp; omega
      have hv : rlt ⟨p, oa, ob, ia, ib, lv, hd⟩ ⟨p', oa', ob', ia', ib', lv', hd'⟩ = decide ((oa : Int) < (oa' : Int)) := by
        simp only [rlt]
        rw [Bool.eq_iff_iff]
        simp only [decide_eq_true_eq]
        omega
      rw [hv]
      clear hv h1 h2
      go_enter Try.func63, Try.ntmps63
      go_wp2
      go_ret
      exact ⟨by simp, hU⟩
  · have i1 : ((p : Int) != (p' : Int)) = true := by simp; omega
    have hv : rlt ⟨p, oa, ob, ia, ib, lv, hd⟩ ⟨p', oa', ob', ia', ib', lv', hd'⟩ = decide ((p : Int) < (p' : Int)) := by
      simp only [rlt]
      rw [Bool.eq_iff_iff]
      simp only [decide_eq_true_eq]
      omega
    rw [hv]
    clear hv h1
    go_enter Try.func63, Try.ntmps63
    go_wp2
    go_ret
    exact ⟨by simp, hU⟩
end Go.Proofs.Ytfiblchdfacdiaa
