/- The reference's epochs in memory; its small methods, walked. -/
import Derived.Test.YtmmhjibgmpdjoaaEndPlain
namespace Go.Proofs.Ytmmhjibgmpdjoaa
open Go Go.RowKit Go.Deep Md

def icl (l : List Int) : List Value := l.map fun v => .int .i64 v
theorem icl_at (l : List Int) (i : Nat) (h : i < l.length) : (icl l)[i]? = some (.int .i64 (wAt l i)) := by simp [icl, wAt, h]
theorem icl_set (l : List Int) (i : Nat) (v : Int) : (icl l).set i (.int .i64 v) = icl (l.set i v) := by simp [icl, List.map_set]
def refF (s n cs : Nat) (vl : Value) (now : Nat) (i : Nat) : Value :=
  if i = 0 then .int .i64 (now : Nat) else if i = 1 then .slice (some ⟨s, 0, none⟩) n cs else vl
structure RefAt (w : World) (y s cs : Nat) (vl : Value) (E : Ep) : Prop where
  row : w.rowIs y 54 3 (refF s E.ws.length cs vl E.now)
  said : w.ownsRow (y + 1) 3 1 (.slice (some ⟨s, 0, none⟩) E.ws.length cs) E.ws.length (icl E.ws)
  wt : w.ownsRow (y + 1) 63 2 vl E.wt.length (pcl E.wt)
  ok : E.Ok
  nil0 : E.wt.length = 0 → vl = .slice none 0 0
def RefS (y s : Nat) (vl : Value) (k : Nat) : Prop := k = y ∨ k = s ∨ vl.ownBlock = some k
namespace RefAt
variable {w w' : World} {y s cs : Nat} {vl : Value} {E : Ep}
theorem lt (h : RefAt w y s cs vl E) : y < w.heap.size := h.row.lt
theorem ys (h : RefAt w y s cs vl E) : y < s ∧ s < w.heap.size := by have := h.said.lt s rfl; omega
theorem c0 (h : RefAt w y s cs vl E) : w.cell? ⟨y, 0, none⟩ = some (.int .i64 (E.now : Nat)) := h.row.cell (i := 0) (by omega)
theorem c1 (h : RefAt w y s cs vl E) : w.cell? ⟨y, 1, none⟩ = some (.slice (some ⟨s, 0, none⟩) E.ws.length cs) := h.row.cell (i := 1) (by omega)
theorem c2 (h : RefAt w y s cs vl E) : w.cell? ⟨y, 2, none⟩ = some vl := h.row.cell (i := 2) (by omega)
theorem wc (h : RefAt w y s cs vl E) {i : Nat} (hi : i < E.ws.length) : w.cell? ⟨s, i, none⟩ = some (.int .i64 (wAt E.ws i)) := by
  have := h.said.cells (g := s) rfl i _ (icl_at E.ws i hi)
  rw [Addr.add_lit, Nat.zero_add] at this
  exact this
theorem gen {S : Nat → Prop} (h : RefAt w y s cs vl E) (hu : Upto S w w') (hS : ∀ k, S k → ¬ RefS y s vl k) : RefAt w' y s cs vl E :=
  ⟨hu.row h.row (fun hs => hS _ hs (.inl rfl)), hu.own h.said (fun k hk hs => hS k hs (.inr (.inl (by simpa [Value.ownBlock] using hk.symm)))), hu.own h.wt (fun k hk hs => hS k hs (.inr (.inr hk))), h.ok, h.nil0⟩
theorem upto (h : RefAt w y s cs vl E) (hu : Upto NoS w w') : RefAt w' y s cs vl E := h.gen hu (fun _ h => h.elim)
theorem alloc (h : RefAt w y s cs vl E) (o : Obj) : RefAt (w.alloc o) y s cs vl E := h.upto ((Upto.refl _ _).alloc o)
theorem drew (h : RefAt w y s cs vl E) : RefAt w.drew y s cs vl E := h.upto (Upto.refl _ _).drew
theorem drewN (h : RefAt w y s cs vl E) (n : Nat) : RefAt (w.drewN n) y s cs vl E := h.upto ((Upto.refl _ _).drewN n)
theorem vl_ne (h : RefAt w y s cs vl E) {k : Nat} (hk : vl.ownBlock = some k) : y < k ∧ k < w.heap.size ∧ k ≠ s := by
  have := h.wt.lt k hk
  refine ⟨by omega, this.2, fun e => ?_⟩
  subst e
  exact own_apart h.wt h.said (by decide) hk rfl
end RefAt
def RTurn (y s cs : Nat) (vl : Value) (E' : Ep) (w : World) (v : Value) (e : Ending) (w' : World) : Prop := e = .returned v ∧ RefAt w' y s cs vl E' ∧ Upto (RefS y s vl) w w'
def RNewP (y s cs : Nat) (vl : Value) (E' : Ep) (w : World) (v : Value) (e : Ending) (w' : World) : Prop :=
  e = .returned v ∧ ∃ vl', RefAt w' y s cs vl' E' ∧ Upto (RefS y s vl) w w' ∧ ∀ k, vl'.ownBlock = some k → vl.ownBlock = some k ∨ w.heap.size ≤ k

theorem Now_r (w : World) (y s cs : Nat) (vl : Value) (E : Ep) (h : RefAt w y s cs vl E) :
    Calls Try.prog 23 #[.pointer (some ⟨y, 0, none⟩)] w fun e w' => e = .returned (.int .i64 (E.now : Nat)) ∧ w = w' := by
  have hc := h.c0
  go_enter Try.func23, Try.ntmps23
  go_wp2
  go_ret
  exact ⟨rfl, rfl⟩
theorem Waiting_r (w : World) (y s cs : Nat) (vl : Value) (E : Ep) (h : RefAt w y s cs vl E) :
    Calls Try.prog 29 #[.pointer (some ⟨y, 0, none⟩)] w fun e w' => e = .returned (.int .i64 (E.wt.length : Nat)) ∧ w = w' := by
  obtain ⟨a, c, rfl, _⟩ := own_slice h.wt
  have hc := h.c2
  go_enter Try.func29, Try.ntmps29
  go_wp2
  go_ret
  exact ⟨rfl, rfl⟩
theorem Seen_r (w : World) (y s cs : Nat) (vl : Value) (E : Ep) (i : Int) (h : RefAt w y s cs vl E) :
    Calls Try.prog 27 #[.pointer (some ⟨y, 0, none⟩), .int .i64 i] w fun e w' => e = .returned (.int .i64 (seenI E i)) ∧ w = w' := by
  have hc := h.c1
  have hl := h.ok.len
  by_cases g1 : i < 0
  · have hr : seenI E i = -1 := by unfold seenI; rw [if_neg (by omega)]
    rw [hr]
    go_enter Try.func27, Try.ntmps27
    go_wp2
    go_ret
    exact ⟨rfl, rfl⟩
  · obtain ⟨n, rfl⟩ := Int.eq_ofNat_of_zero_le (by omega : 0 ≤ i)
    by_cases g2 : n < E.ws.length
    · have hr : seenI E n = wAt E.ws n := by unfold seenI; rw [if_pos (by omega)]; simp
      rw [hr]
      have hs := h.wc (i := n) g2
      go_enter Try.func27, Try.ntmps27
      go_wp2
      go_ret
      exact ⟨rfl, rfl⟩
    · have hr : seenI E n = -1 := by unfold seenI; rw [if_neg (by omega)]
      rw [hr]
      go_enter Try.func27, Try.ntmps27
      go_wp2
      go_ret
      exact ⟨rfl, rfl⟩
theorem seen_lo {E : Ep} (h : E.Ok) (i : Int) : -1 ≤ seenI E i := by
  unfold seenI
  split
  · exact (h.ws _).1
  · omega
theorem In_r (w : World) (y s cs : Nat) (vl : Value) (E : Ep) (i : Int) (h : RefAt w y s cs vl E) :
    Calls Try.prog 25 #[.pointer (some ⟨y, 0, none⟩), .int .i64 i] w fun e w' => e = .returned (.bool (seenI E i != -1)) ∧ w = w' := by
  have hlo := seen_lo h.ok i
  have hd : (seenI E i != -1) = decide (0 ≤ seenI E i) := by
    rw [Bool.eq_iff_iff]; simp; omega
  rw [hd]
  clear hd
  go_enter Try.func25, Try.ntmps25
  go_wp2_with (go_at_call 27; refine (Seen_r _ _ _ _ _ _ i h).mono ?_; rintro e w' ⟨rfl, rfl⟩)
  go_ret
  exact ⟨rfl, rfl⟩

theorem RefAt.setW {w : World} {y s cs : Nat} {vl : Value} {E : Ep} (h : RefAt w y s cs vl E) {n : Nat} (hn : n < E.ws.length) {v : Int} (hv : -1 ≤ v ∧ v ≤ E.now) :
    RefAt (w.setCell ⟨s, n, none⟩ (.int .i64 v)) y s cs vl { E with ws := E.ws.set n v } := by
  have hu : Upto (· = s) w (w.setCell ⟨s, n, none⟩ (.int .i64 v)) := (Upto.refl (fun k => k = s) w).setB rfl _
  have hys := h.ys
  refine ⟨?_, ?_, hu.own h.wt (fun k hk e => by have := h.vl_ne hk; exact this.2.2 e), ⟨h.ok.now, by simpa using h.ok.pos, by simpa using h.ok.len, fun i => ?_, h.ok.many, h.ok.wt⟩, h.nil0⟩
  · have := hu.row h.row (by omega)
    simpa using this
  · have := (h.said.stored n (.int .i64 v)).1
    rw [icl_set] at this
    simpa using this
  · show _ ≤ wAt (E.ws.set n v) i ∧ wAt (E.ws.set n v) i ≤ _
    rw [wAt_set _ _ _ _ hn]
    split
    · exact hv
    · exact h.ok.ws i
theorem set_r (w : World) (y s cs : Nat) (vl : Value) (E : Ep) (i v : Int) (h : RefAt w y s cs vl E) (hv : -1 ≤ v ∧ v ≤ E.now) :
    Calls Try.prog 32 #[.pointer (some ⟨y, 0, none⟩), .int .i64 i, .int .i64 v] w (RTurn y s cs vl (annSt E i v) w (.int .i64 (annE E i))) := by
  have hc := h.c1
  have hl := h.ok.len
  by_cases g0 : 0 ≤ i ∧ i < E.ws.length
  · rw [show annSt E i v = { E with ws := E.ws.set i.toNat v } from if_pos g0, show annE E i = 0 from if_pos g0]
    obtain ⟨n, rfl⟩ := Int.eq_ofNat_of_zero_le g0.1
    have g2 : n < E.ws.length := by omega
    simp only [Int.toNat_natCast]
    have hs := h.wc (i := n) g2
    have hf := h.said.frozenAt n
    have R := Lib.hid (h.setW g2 hv)
    clear g0
    go_enter Try.func32, Try.ntmps32
    go_wp2
    go_ret
    exact ⟨rfl, R.out, (Upto.refl (RefS y s vl) w).setB (.inr (.inl rfl)) _⟩
  · rw [show annSt E i v = E from if_neg g0, show annE E i = 2 from if_neg g0]
    by_cases g1 : i < 0
    · clear g0
      go_enter Try.func32, Try.ntmps32
      go_wp2
      go_ret
      exact ⟨rfl, h, Upto.refl _ _⟩
    · obtain ⟨n, rfl⟩ := Int.eq_ofNat_of_zero_le (by omega : 0 ≤ i)
      have g2 : ¬ n < E.ws.length := by omega
      clear g0
      go_enter Try.func32, Try.ntmps32
      go_wp2
      go_ret
      exact ⟨rfl, h, Upto.refl _ _⟩
theorem Enter_r (w : World) (y s cs : Nat) (vl : Value) (E : Ep) (i : Int) (h : RefAt w y s cs vl E) :
    Calls Try.prog 12 #[.pointer (some ⟨y, 0, none⟩), .int .i64 i] w (RTurn y s cs vl (annSt E i E.now) w (.int .i64 (annE E i))) := by
  have hc := h.c0
  go_enter Try.func12, Try.ntmps12
  go_wp2_with (go_at_call 32; refine (set_r _ _ _ _ _ _ i E.now h (by omega)).mono ?_; rintro e w1 ⟨rfl, h1, hu⟩)
  go_ret
  exact ⟨rfl, h1, hu⟩
theorem Leave_r (w : World) (y s cs : Nat) (vl : Value) (E : Ep) (i : Int) (h : RefAt w y s cs vl E) :
    Calls Try.prog 14 #[.pointer (some ⟨y, 0, none⟩), .int .i64 i] w (RTurn y s cs vl (annSt E i (-1)) w (.int .i64 (annE E i))) := by
  go_enter Try.func14, Try.ntmps14
  go_wp2_with (go_at_call 32; refine (set_r _ _ _ _ _ _ i (-1) h (by omega)).mono ?_; rintro e w1 ⟨rfl, h1, hu⟩)
  go_ret
  exact ⟨rfl, h1, hu⟩

theorem RefAt.setNow {w : World} {y s cs : Nat} {vl : Value} {E : Ep} (h : RefAt w y s cs vl E) (hn : E.now < 1000000) :
    RefAt (w.setCell ⟨y, 0, none⟩ (.int .i64 ((E.now : Int) + 1))) y s cs vl { E with now := E.now + 1 } := by
  have hu : Upto (· = y) w (w.setCell ⟨y, 0, none⟩ (.int .i64 ((E.now : Int) + 1))) := (Upto.refl (fun k => k = y) w).setB rfl _
  have hys := h.ys
  refine ⟨(h.row.set 0 _).congr fun i hi => ?_, hu.own h.said (fun k hk e => by have : s = k := (by simpa [Value.ownBlock] using hk); have e' : k = y := e; omega), hu.own h.wt (fun k hk e => by have := h.vl_ne hk; have e' : k = y := e; omega), ⟨by show E.now + 1 ≤ _; omega, h.ok.pos, h.ok.len, fun i => ?_, h.ok.many, fun j hj => ?_⟩, h.nil0⟩
  · simp only [refF]
    split <;> first | rfl | (congr 1)
  · have := h.ok.ws i; exact ⟨this.1, by have := this.2; show wAt E.ws i ≤ ((E.now + 1 : Nat) : Int); omega⟩
  · have := h.ok.wt j hj; exact ⟨this.1, Nat.le_trans this.2 (Nat.le_succ _)⟩
set_option maxRecDepth 100000 in
set_option maxHeartbeats 1000000 in
theorem Advance_r (w : World) (y s cs : Nat) (vl : Value) (E : Ep) (q : Bool) (h : RefAt w y s cs vl E) (hn : E.now < 1000000) (hq : advB E = q) :
    Calls Try.prog 16 #[.pointer (some ⟨y, 0, none⟩)] w (RTurn y s cs vl (advSt E) w (.bool q)) := by
  have hl := h.ok.len
  have hA : E.ws.any (behB E.now) = !q := by unfold advB at hq; rw [← hq]; simp
  have hS : advSt E = if q then { E with now := E.now + 1 } else E := by unfold advSt; rw [hq]
  have HA := Lib.hid hA
  have HS := Lib.hid hS
  have hlo := Lib.hid (fun i => (h.ok.ws i).1)
  clear hA hS hq
  go_enter Try.func16, Try.ntmps16
  go_wp2_with fail
  go_loopw [3] (fun v wr => ∃ k : Nat, k ≤ E.ws.length ∧ v = .int .i64 k ∧ Hid (∀ i, i < k → behB E.now (wAt E.ws i) = false) ∧ Upto NoS w wr) (fun v _ => E.ws.length - (intOf v).toNat)
  case atStart => exact ⟨0, by omega, rfl, Lib.hid (fun i hi => by omega), Upto.refl _ _⟩
  case round =>
    obtain ⟨k, hk, rfl, hno, hu⟩ := hrel
    have hR := h.upto hu
    have hc0 := hR.c0
    have hc1 := hR.c1
    by_cases hlt : k < E.ws.length
    · have hs := hR.wc (i := k) hlt
      have hlok := hlo.out k
      obtain ⟨v, hv⟩ : ∃ v, v = wAt E.ws k := ⟨_, rfl⟩
      rw [← hv] at hs hlok
      have HV := Lib.hid hv
      have z0 : (0 : Int) ≤ (k : Int) := by omega
      have z1 : (k : Int) < (E.ws.length : Int) := by omega
      clear hv
      by_cases e0 : v = -1
      · subst e0
        have hb : behB E.now (-1) = false := rfl
        clear hb
        go_wp2_with fail
        go_quiet (fail)
        go_wp2
        go_roundw
        case rel => exact ⟨k + 1, by omega, by go_num, Lib.hid (fun i hi => by by_cases e : i = k; (subst e; rw [← HV.out]; rfl); exact hno.out i (by omega)), hu.drewN _⟩
        case measure => simp [intOf]; omega
      · have d0 : decide ((0 : Int) ≤ v) = true := decide_eq_true (by omega)
        have d0' : (0 : Int) ≤ v := by omega
        by_cases e1 : v = (E.now : Int)
        · have d1 : (v != (E.now : Int)) = false := by simp [e1]
          have HE := Lib.hid e1
          clear e1 e0
          go_wp2_with fail
          go_quiet (fail)
          go_wp2
          go_roundw
          case rel => exact ⟨k + 1, by omega, by go_num, Lib.hid (fun i hi => by by_cases e : i = k; (subst e; rw [← HV.out]; unfold behB; rw [d1]; simp); exact hno.out i (by omega)), hu.drewN _⟩
          case measure => simp [intOf]; omega
        · have d1 : (v != (E.now : Int)) = true := by simp [e1]
          have hqf : q = false := by
            have hex : E.ws.any (behB E.now) = true := any_at.2 ⟨k, hlt, by rw [← HV.out]; unfold behB; rw [d1]; simp; omega⟩
            rw [HA.out] at hex
            simpa using hex
          subst hqf
          clear e1 e0
          go_wp2_with fail
          go_quiet (fail)
          go_wp2
          go_ret
          refine ⟨rfl, ?_, (hu.drewN _).mono (fun _ _ h => h.elim)⟩
          rw [HS.out]
          exact hR.drewN _
    · obtain rfl : k = E.ws.length := by omega
      have hqt : q = true := by
        cases q
        · have hex : E.ws.any (behB E.now) = true := HA.out
          obtain ⟨i, hi, hb⟩ := any_at.1 hex
          rw [hno.out i hi] at hb; cases hb
        · rfl
      subst hqt
      have f0 := hR.row.frozen 0
      have R := Lib.hid (hR.setNow hn)
      go_wp2
      go_ret
      refine ⟨rfl, ?_, (hu.mono (fun _ _ h => h.elim)).setB (.inl rfl) _⟩
      rw [HS.out]
      exact R.out
end Go.Proofs.Ytmmhjibgmpdjoaa
