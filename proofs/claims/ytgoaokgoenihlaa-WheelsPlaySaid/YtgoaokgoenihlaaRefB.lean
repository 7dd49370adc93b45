/- The document's find, ahead, Due and New, walked. -/
import Derived.Test.YtgoaokgoenihlaaRefA
import Derived.Test.YtgoaokgoenihlaaWalkD
namespace Go.Proofs.Ytgoaokgoenihlaa
open Go Go.RowKit Go.Deep Go.Maps

theorem drewN_two' (w : World) (n k : Nat) : (w.drewN n).drewN k = w.drewN (n + k) := by unfold World.drewN; simp [Nat.add_assoc]
/-- Where a handle is; behind all, if it is nowhere. -/
def fI (L : List Tm) (a : Hn) : Nat := L.findIdx fun t => t.h == a
def fV (L : List Tm) (a : Hn) : Int := if fI L a < L.length then (fI L a : Nat) else -1
theorem fI_le (L : List Tm) (a : Hn) : fI L a ≤ L.length := List.findIdx_le_length
theorem fI_yes {L : List Tm} {a : Hn} {k : Nat} (hk : k < L.length) (hle : k ≤ fI L a) (h : (L[k].h == a) = true) : fI L a = k := by
  rcases Nat.lt_or_ge k (fI L a) with h1 | h1
  · have := List.not_of_lt_findIdx h1
    simp [h] at this
  · omega
theorem fI_no {L : List Tm} {a : Hn} {k : Nat} (hk : k < L.length) (hle : k ≤ fI L a) (h : (L[k].h == a) = false) : k + 1 ≤ fI L a := by
  rcases Nat.lt_or_ge k (fI L a) with h1 | h1
  · exact h1
  · have e : fI L a = k := by omega
    have := List.findIdx_getElem (xs := L) (p := fun t => t.h == a) (w := by unfold fI at e; omega)
    unfold fI at e
    simp [e, h] at this
abbrev tAt (L : List Tm) (j : Nat) : Hn := ⟨ts L j, tg L j⟩
theorem tAt_eq {L : List Tm} {j : Nat} (h : j < L.length) : tAt L j = L[j].h := by simp [tAt, ts, tg, h]

set_option maxRecDepth 100000 in
set_option maxHeartbeats 1000000 in
theorem find_r (w : World) (y : Nat) (p : Option Addr) (c : Nat) (R : Rf) (a : Hn) (h : RIn w y p c R) :
    Calls Try.prog 31 #[.pointer (some ⟨y, 0, none⟩), hv a] w (Told (.int .i64 (fV R.L a)) w) := by
  have hU : Upto NoS w (w.alloc (.cells #[.int .i64 a.s, .int .u32 (a.g : Nat)] 31)) := (Upto.refl _ w).alloc _
  have n0 := new_1 w #[.int .i64 a.s, .int .u32 (a.g : Nat)] 31 0 (.int .i64 a.s) rfl
  have n1 := new_1 w #[.int .i64 a.s, .int .u32 (a.g : Nat)] 31 1 (.int .u32 (a.g : Nat)) rfl
  have h1 := h.upto hU
  have hc := h1.c1
  have hl := h.ok.many
  have HL := Lib.hid h1.l
  clear h h1
  go_enter Try.func31, Try.ntmps31
  go_wp2
  generalize w.alloc (.cells #[.int .i64 a.s, .int .u32 (a.g : Nat)] 31) = W at n0 n1 hc HL hU ⊢
  go_loopw [5] (fun i wr => ∃ (k n : Nat), k ≤ R.L.length ∧ i = .int .i64 k ∧ wr = W.drewN n ∧ Hid (k ≤ fI R.L a)) (fun i _ => R.L.length - (intOf i).toNat)
  case atStart => exact ⟨0, 0, by omega, rfl, rfl, Lib.hid (by omega)⟩
  case round =>
    obtain ⟨k, n, hk, rfl, rfl, HE⟩ := hrel
    by_cases hlt : k < R.L.length
    · obtain ⟨q, o, rfl, d0, d1, _⟩ := HL.out.cells hlt
      have z0 : (0 : Int) ≤ (k : Int) := by omega
      have z1 : (k : Int) < (R.L.length : Int) := by omega
      have hne := fun w' => eq31 w' (tAt R.L k) a
      have hgu := fun w' x y => guard31 w' x y (tAt R.L k) a
      cases hq : (tAt R.L k == a)
      · rw [hq] at hne
        have HQ := Lib.hid (fI_no hlt HE.out (by rw [← tAt_eq hlt]; exact hq))
        clear hq
        go_wp2_with fail
        go_quiet (fail)
        go_wp2
        go_roundw
        case rel => exact ⟨k + 1, n + nq, by omega, by go_num, (by first | rfl | exact drewN_two' W n nq), HQ⟩
        case measure => simp [intOf]; omega
      · rw [hq] at hne
        have HQ := Lib.hid (fI_yes hlt HE.out (by rw [← tAt_eq hlt]; exact hq))
        have hv : fV R.L a = (k : Nat) := by unfold fV; rw [HQ.out, if_pos hlt]
        rw [hv]
        clear hq hv
        go_wp2_with fail
        go_quiet (fail)
        go_wp2
        go_ret
        exact ⟨rfl, (hU.drewN _).drewN _⟩
    · obtain rfl : k = R.L.length := by omega
      have hv : fV R.L a = -1 := by unfold fV; rw [if_neg (by have := HE.out; omega)]
      have HV := Lib.hid hv
      clear hv
      go_wp2
      go_ret
      exact ⟨by rw [HV.out]; rfl, hU.drewN _⟩

theorem ahead_r (w : World) (t u : Tm) : Calls Try.prog 32 #[rtv t, rtv u] w (Told (.bool (tlt t u)) w) := by
  have hU : Upto NoS w ((w.alloc (.cells #[.int .i64 t.h.s, .int .u32 (t.h.g : Nat), .int .i64 (t.d : Nat)] 77)).alloc (.cells #[.int .i64 u.h.s, .int .u32 (u.h.g : Nat), .int .i64 (u.d : Nat)] 77)) := ((Upto.refl _ w).alloc _).alloc _
  by_cases h1 : t.d = u.d
  · have i1 : ((t.d : Int) != (u.d : Int)) = false := by simp; omega
    by_cases h2 : t.h.s = u.h.s
    · have i2 : (t.h.s != u.h.s) = false := by simp [h2]
      have hv : tlt t u = decide ((t.h.g : Int) < (u.h.g : Int)) := by
        unfold tlt
        rw [Bool.eq_iff_iff]
        simp only [decide_eq_true_eq]
        omega
      rw [hv]
      clear hv h1 h2
      go_enter Try.func32, Try.ntmps32
      go_wp2
      go_ret
      exact ⟨by simp, hU⟩
    · have i2 : (t.h.s != u.h.s) = true := by simp [h2]
      have hv : tlt t u = decide (t.h.s < u.h.s) := by
        unfold tlt
        rw [Bool.eq_iff_iff]
        simp only [decide_eq_true_eq]
        omega
      rw [hv]
      clear hv h1 h2
      go_enter Try.func32, Try.ntmps32
      go_wp2
      go_ret
      exact ⟨rfl, hU⟩
  · have i1 : ((t.d : Int) != (u.d : Int)) = true := by simp; omega
    have hv : tlt t u = decide ((t.d : Int) < (u.d : Int)) := by
      unfold tlt
      rw [Bool.eq_iff_iff]
      simp only [decide_eq_true_eq]
      omega
    rw [hv]
    clear hv h1
    go_enter Try.func32, Try.ntmps32
    go_wp2
    go_ret
    exact ⟨by simp, hU⟩

/-- When one is. -/
def dueR (L : List Tm) (a : Hn) : Value := if fI L a < L.length then .tuple #[.int .i64 (td L (fI L a) : Nat), .bool true] else .tuple #[.int .i64 0, .bool false]
theorem Due_r (w : World) (y : Nat) (p : Option Addr) (c : Nat) (R : Rf) (a : Hn) (h : RIn w y p c R) :
    Calls Try.prog 22 #[.pointer (some ⟨y, 0, none⟩), hv a] w (Told (dueR R.L a) w) := by
  have hU : Upto NoS w (w.alloc (.cells #[.int .i64 a.s, .int .u32 (a.g : Nat)] 31)) := (Upto.refl _ w).alloc _
  have h1 := h.upto hU
  have hl := h.ok.many
  have n0 := new_1 w #[.int .i64 a.s, .int .u32 (a.g : Nat)] 31 0 (.int .i64 a.s) rfl
  have n1 := new_1 w #[.int .i64 a.s, .int .u32 (a.g : Nat)] 31 1 (.int .u32 (a.g : Nat)) rfl
  by_cases hf : fI R.L a < R.L.length
  · have hv : fV R.L a = (fI R.L a : Nat) := by unfold fV; rw [if_pos hf]
    have hd : dueR R.L a = .tuple #[.int .i64 (td R.L (fI R.L a) : Nat), .bool true] := by unfold dueR; rw [if_pos hf]
    rw [hd]
    have HV := Lib.hid hv
    generalize fI R.L a = k at hf HV ⊢
    have z0 : (0 : Int) ≤ (k : Int) := by omega
    have z1 : (k : Int) < (R.L.length : Int) := by omega
    clear h hv hd
    go_enter Try.func22, Try.ntmps22
    go_wp2_with (go_at_call 31; refine (find_r _ y p c R a h1).mono ?_; rw [HV.out]; rintro e w' ⟨rfl, hu⟩; have h2 := h1.upto hu; have hc := h2.c1; obtain ⟨q, o, rfl, d0, d1, d2⟩ := h2.l.cells hf; clear d0 d1 h1)
    go_ret2
    exact ⟨rfl, hU.trans hu⟩
  · have hv : fV R.L a = -1 := by unfold fV; rw [if_neg hf]
    have hd : dueR R.L a = .tuple #[.int .i64 0, .bool false] := by unfold dueR; rw [if_neg hf]
    rw [hd]
    have HV := Lib.hid hv
    clear h hv hd hf
    go_enter Try.func22, Try.ntmps22
    go_wp2_with (go_at_call 31; refine (find_r _ y p c R a h1).mono ?_; rw [HV.out]; rintro e w' ⟨rfl, hu⟩)
    go_ret2
    exact ⟨rfl, hU.trans hu⟩

theorem New_r_err (w : World) (n : Int) (h : n < 1 ∨ 64 < n) : Calls Try.prog 17 #[.int .i64 n] w fun e w' => e = .returned (.tuple #[.pointer none, .int .i64 2]) ∧ w = w' := by
  by_cases h1 : n < 1
  · go_enter Try.func17, Try.ntmps17
    go_wp2
    go_ret2
    exact ⟨rfl, rfl⟩
  · have h2 : 64 < n := by omega
    go_enter Try.func17, Try.ntmps17
    go_wp2
    go_ret2
    exact ⟨rfl, rfl⟩
theorem New_r (w : World) (n : Int) (h1 : 1 ≤ n) (h2 : n ≤ 64) : Calls Try.prog 17 #[.int .i64 n] w fun e w' => e = .returned (.tuple #[.pointer (some ⟨w.heap.size, 0, none⟩), .int .i64 0]) ∧ RIn w' w.heap.size none 0 ⟨0, []⟩ ∧ Upto NoS w w' := by
  have i1 : ¬ n < 1 := by omega
  have i2 : ¬ 64 < n := by omega
  have hR : RIn (w.alloc (.cells #[.int .i64 0, .slice none 0 0] 55)) w.heap.size none 0 ⟨0, []⟩ :=
    ⟨World.rowIs_alloc w #[.int .i64 0, .slice none 0 0] 55 _ (fun i hi => by
      have : i < 2 := hi
      match i, this with
      | 0, _ => rfl | 1, _ => rfl), ⟨by simp, by simp [maxLen], .inl ⟨rfl, rfl⟩⟩, ⟨by show 0 ≤ _; omega, fun t ht => by simp at ht, by simp⟩, fun k hk => by obtain ⟨o, h⟩ := hk; cases h⟩
  have hU : Upto NoS w (w.alloc (.cells #[.int .i64 0, .slice none 0 0] 55)) := (Upto.refl _ w).alloc _
  go_enter Try.func17, Try.ntmps17
  go_wp2
  go_ret2
  exact ⟨rfl, hR, hU⟩
end Go.Proofs.Ytgoaokgoenihlaa
