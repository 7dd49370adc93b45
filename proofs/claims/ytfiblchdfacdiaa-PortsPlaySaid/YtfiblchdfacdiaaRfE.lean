/- The document's Confirm, Drop, Release, Fix: walked. -/
import Derived.Test.YtfiblchdfacdiaaRfCd
import Derived.Test.YtfiblchdfacdiaaRfCr
import Derived.Test.YtfiblchdfacdiaaRfD
namespace Go.Proofs.Ytfiblchdfacdiaa
open Go Go.RowKit Go.Deep Go.Maps

def iO (L : List Rw) (p a b : Nat) : Nat := L.findIdx (pO p a b)
def iI (L : List Rw) (p a b : Nat) : Nat := L.findIdx (pI p a b)
def cfL (L : List Rw) (p a b : Nat) : Int × List Rw :=
  if iO L p a b < L.length then if (rwAt L (iO L p a b)).held = 0 then (6, L) else (0, L.set (iO L p a b) (conf (rwAt L (iO L p a b)))) else (6, L)
def drL (L : List Rw) (p a b : Nat) : Int × List Rw :=
  if iO L p a b < L.length then if (rwAt L (iO L p a b)).held = 0 then (6, L) else if (rwAt L (iO L p a b)).live + ((rwAt L (iO L p a b)).held - 1) = 0 then (0, L.take (iO L p a b) ++ L.drop (iO L p a b + 1)) else (0, L.set (iO L p a b) (drp (rwAt L (iO L p a b)))) else (6, L)
def rlL (L : List Rw) (p a b : Nat) : Int × List Rw :=
  if iO L p a b < L.length then if (rwAt L (iO L p a b)).live = 0 then (6, L) else if ((rwAt L (iO L p a b)).live - 1) + (rwAt L (iO L p a b)).held = 0 then (0, L.take (iO L p a b) ++ L.drop (iO L p a b + 1)) else (0, L.set (iO L p a b) (rels (rwAt L (iO L p a b)))) else (6, L)
def fxL (L : List Rw) (p ia ib oa ob : Nat) : Int × List Rw :=
  if iI L p ia ib < L.length then if (rwAt L (iI L p ia ib)).oa = oa ∧ (rwAt L (iI L p ia ib)).ob = ob then (0, L.set (iI L p ia ib) (hold (rwAt L (iI L p ia ib)))) else (7, L)
  else if iO L p oa ob < L.length then (10, L) else (0, insR L (newR p oa ob ia ib))

theorem RNewP.wrap {base y : Nat} {a : Option Addr} {L' : List Rw} {w w1 : World} {v : Value} {e : Ending} {w' : World} (hu : Upto NoS w w1) (h : RNewP base y a L' w1 v e w') : RNewP base y a L' w v e w' := by
  obtain ⟨h1, a', c', h2, h3, h4⟩ := h
  exact ⟨h1, a', c', h2, (hu.mono (fun _ _ e => e.elim)).trans h3, fun k hk => (h4 k hk).imp id (fun e => Nat.le_trans hu.size e)⟩

theorem conf_r_any (w : World) (base y : Nat) (ad : Option Addr) (c : Nat) (L : List Rw) (p a b : Nat) (h : RIn w base y ad c L) (hm : ∀ r ∈ L, r.live < 1000000) :
    Calls Try.prog 49 #[.pointer (some ⟨y, 0, none⟩), .int .u8 p, ev a b, .int .i64 (-1), .int .i64 (1)] w (RNewP base y ad (cfL L p a b).2 w (.int .i64 (cfL L p a b).1)) := by
  unfold cfL
  by_cases hk : iO L p a b < L.length
  · rw [if_pos hk]
    by_cases h0 : (rwAt L (iO L p a b)).held = 0
    · rw [if_pos h0]
      exact (conf_r_zero w base y ad c L p a b _ h rfl hk h0).mono fun _ _ ht => RNewP.of_told h ht
    · rw [if_neg h0]
      exact conf_r_keep w base y ad c L p a b _ h rfl hk (by omega) (hm _ (rwAt_mem L hk))
  · rw [if_neg hk]
    exact (conf_r_no w base y ad c L p a b h hk).mono fun _ _ ht => RNewP.of_told h ht
theorem Confirm_r (w : World) (base y : Nat) (ad : Option Addr) (c : Nat) (L : List Rw) (p a b : Nat) (h : RIn w base y ad c L) (hm : ∀ r ∈ L, r.live < 1000000) :
    Calls Try.prog 38 #[.pointer (some ⟨y, 0, none⟩), .int .u8 p, ev a b] w (RNewP base y ad (cfL L p a b).2 w (.int .i64 (cfL L p a b).1)) := by
  have hU : Upto NoS w (w.alloc (.cells #[.int .u32 (a : Nat), .int .u16 (b : Nat)] 26)) := (Upto.refl _ w).alloc _
  have h1 := h.upto hU
  have HC := Lib.hid (conf_r_any _ base y ad c L p a b h1 hm)
  have HU := Lib.hid hU
  clear h hU h1
  go_enter Try.func38, Try.ntmps38
  go_wp2_with (go_at_call 49; refine HC.out.mono ?_; rintro e w1 ⟨rfl, hp⟩)
  go_ret
  exact RNewP.wrap HU.out ⟨rfl, hp⟩

theorem drop_r_any (w : World) (base y : Nat) (ad : Option Addr) (c : Nat) (L : List Rw) (p a b : Nat) (h : RIn w base y ad c L) (hm : ∀ r ∈ L, r.live < 1000000) :
    Calls Try.prog 49 #[.pointer (some ⟨y, 0, none⟩), .int .u8 p, ev a b, .int .i64 (-1), .int .i64 (0)] w (RNewP base y ad (drL L p a b).2 w (.int .i64 (drL L p a b).1)) := by
  unfold drL
  by_cases hk : iO L p a b < L.length
  · rw [if_pos hk]
    by_cases h0 : (rwAt L (iO L p a b)).held = 0
    · rw [if_pos h0]
      exact (drop_r_zero w base y ad c L p a b _ h rfl hk h0).mono fun _ _ ht => RNewP.of_told h ht
    · rw [if_neg h0]
      by_cases hc : (rwAt L (iO L p a b)).live + ((rwAt L (iO L p a b)).held - 1) = 0
      · rw [if_pos hc]
        have hc' : (drp (rwAt L (iO L p a b))).live + (drp (rwAt L (iO L p a b))).held = 0 := hc
        exact drop_r_go w base y ad c L p a b _ h rfl hk (by omega) (by omega) (by omega)
      · rw [if_neg hc]
        have hc' : ¬ (drp (rwAt L (iO L p a b))).live + (drp (rwAt L (iO L p a b))).held = 0 := hc
        exact drop_r_keep w base y ad c L p a b _ h rfl hk (by omega) (by omega)
  · rw [if_neg hk]
    exact (drop_r_no w base y ad c L p a b h hk).mono fun _ _ ht => RNewP.of_told h ht
theorem Drop_r (w : World) (base y : Nat) (ad : Option Addr) (c : Nat) (L : List Rw) (p a b : Nat) (h : RIn w base y ad c L) (hm : ∀ r ∈ L, r.live < 1000000) :
    Calls Try.prog 39 #[.pointer (some ⟨y, 0, none⟩), .int .u8 p, ev a b] w (RNewP base y ad (drL L p a b).2 w (.int .i64 (drL L p a b).1)) := by
  have hU : Upto NoS w (w.alloc (.cells #[.int .u32 (a : Nat), .int .u16 (b : Nat)] 26)) := (Upto.refl _ w).alloc _
  have h1 := h.upto hU
  have HC := Lib.hid (drop_r_any _ base y ad c L p a b h1 hm)
  have HU := Lib.hid hU
  clear h hU h1
  go_enter Try.func39, Try.ntmps39
  go_wp2_with (go_at_call 49; refine HC.out.mono ?_; rintro e w1 ⟨rfl, hp⟩)
  go_ret
  exact RNewP.wrap HU.out ⟨rfl, hp⟩

theorem rel_r_any (w : World) (base y : Nat) (ad : Option Addr) (c : Nat) (L : List Rw) (p a b : Nat) (h : RIn w base y ad c L) (hm : ∀ r ∈ L, r.live < 1000000) :
    Calls Try.prog 49 #[.pointer (some ⟨y, 0, none⟩), .int .u8 p, ev a b, .int .i64 (0), .int .i64 (-1)] w (RNewP base y ad (rlL L p a b).2 w (.int .i64 (rlL L p a b).1)) := by
  unfold rlL
  by_cases hk : iO L p a b < L.length
  · rw [if_pos hk]
    by_cases h0 : (rwAt L (iO L p a b)).live = 0
    · rw [if_pos h0]
      exact (rel_r_zero w base y ad c L p a b _ h rfl hk h0).mono fun _ _ ht => RNewP.of_told h ht
    · rw [if_neg h0]
      by_cases hc : ((rwAt L (iO L p a b)).live - 1) + (rwAt L (iO L p a b)).held = 0
      · rw [if_pos hc]
        have hc' : (rels (rwAt L (iO L p a b))).live + (rels (rwAt L (iO L p a b))).held = 0 := hc
        exact rel_r_go w base y ad c L p a b _ h rfl hk (by omega) (by omega) (by omega)
      · rw [if_neg hc]
        have hc' : ¬ (rels (rwAt L (iO L p a b))).live + (rels (rwAt L (iO L p a b))).held = 0 := hc
        exact rel_r_keep w base y ad c L p a b _ h rfl hk (by omega) (by omega)
  · rw [if_neg hk]
    exact (rel_r_no w base y ad c L p a b h hk).mono fun _ _ ht => RNewP.of_told h ht
theorem Release_r (w : World) (base y : Nat) (ad : Option Addr) (c : Nat) (L : List Rw) (p a b : Nat) (h : RIn w base y ad c L) (hm : ∀ r ∈ L, r.live < 1000000) :
    Calls Try.prog 40 #[.pointer (some ⟨y, 0, none⟩), .int .u8 p, ev a b] w (RNewP base y ad (rlL L p a b).2 w (.int .i64 (rlL L p a b).1)) := by
  have hU : Upto NoS w (w.alloc (.cells #[.int .u32 (a : Nat), .int .u16 (b : Nat)] 26)) := (Upto.refl _ w).alloc _
  have h1 := h.upto hU
  have HC := Lib.hid (rel_r_any _ base y ad c L p a b h1 hm)
  have HU := Lib.hid hU
  clear h hU h1
  go_enter Try.func40, Try.ntmps40
  go_wp2_with (go_at_call 49; refine HC.out.mono ?_; rintro e w1 ⟨rfl, hp⟩)
  go_ret
  exact RNewP.wrap HU.out ⟨rfl, hp⟩

theorem wcl_setH (L : List Rw) (k : Nat) (r : Rw) (hk : k < L.length) (h : (rwAt L k).p = r.p ∧ (rwAt L k).oa = r.oa ∧ (rwAt L k).ob = r.ob ∧ (rwAt L k).ia = r.ia ∧ (rwAt L k).ib = r.ib ∧ (rwAt L k).live = r.live) :
    wcl (L.set k r) = (wcl L).set (k * 7 + 6) (.int .i64 (r.held : Nat)) := by
  induction L generalizing k with
  | nil => simp at hk
  | cons s l ih =>
    cases k with
    | zero =>
      obtain ⟨e1, e2, e3, e4, e5, e6⟩ := h
      have e1 : s.p = r.p := e1
      have e2 : s.oa = r.oa := e2
      have e3 : s.ob = r.ob := e3
      have e4 : s.ia = r.ia := e4
      have e5 : s.ib = r.ib := e5
      have e6 : s.live = r.live := e6
      simp [wcl, e1, e2, e3, e4, e5, e6]
    | succ k =>
      have := ih k (by simpa using hk) h
      rw [List.set_cons_succ, show wcl (s :: l.set k r) = wcs s ++ wcl (l.set k r) from rfl, this, show wcl (s :: l) = wcs s ++ wcl l from rfl]
      rw [List.set_append_right (h := by show 7 ≤ _; omega)]
      simp only [show (wcs s).length = 7 from rfl]
      rw [show (k + 1) * 7 + 6 - 7 = k * 7 + 6 by omega]
/-- One more that is held. -/
theorem RIn.holds {w : World} {base y q c : Nat} {L : List Rw} (h : RIn w base y (some ⟨q, 0, none⟩) c L) {k : Nat} (hk : k < L.length) (hm : (rwAt L k).held < 1000000) {u : Int} (hu : u = ((rwAt L k).held : Int) + 1) :
    RIn (w.setCell ⟨q, k * 7 + 6, none⟩ (.int .i64 u)) base y (some ⟨q, 0, none⟩) c (L.set k (hold (rwAt L k))) := by
  have hu' : u = (((hold (rwAt L k)).held : Nat) : Int) := by rw [hu]; simp [hold]
  subst hu'
  have h1 := (h.own.stored (k * 7 + 6) (.int .i64 ((hold (rwAt L k)).held : Nat))).1
  rw [← wcl_setH L k (hold (rwAt L k)) hk ⟨rfl, rfl, rfl, rfl, rfl, rfl⟩] at h1
  have hne : ¬ y = q := fun e => h.ne (by rw [e]; rfl)
  have hU : Upto (fun i => i = q) w (w.setCell ⟨q, k * 7 + 6, none⟩ (.int .i64 ((hold (rwAt L k)).held : Nat))) := (Upto.refl (fun i => i = q) w).setB rfl _
  have hok := h.ok _ (rwAt_mem L hk)
  refine ⟨?_, ?_, fun s hs => (mem_set hs).elim (h.ok s) (fun e => by rw [e]; exact ⟨hok.p, hok.oa, hok.ob, hok.ia, hok.ib, hok.live, by show (rwAt L k).held + 1 ≤ _; omega⟩), by rw [List.length_set]; exact h.many, h.ne, h.lo⟩
  · rw [List.length_set]; exact hU.row h.row hne
  · rw [List.length_set]; exact h1

set_option maxHeartbeats 1000000 in
theorem Fix_r_have (w : World) (base y : Nat) (ad : Option Addr) (c : Nat) (L : List Rw) (p ia ib oa oq : Nat) (k : Nat) (h : RIn w base y ad c L) (hf : iI L p ia ib = k) (hk : k < L.length) (hne : ¬ ((rwAt L k).oa = oa ∧ (rwAt L k).ob = oq)) :
    Calls Try.prog 37 #[.pointer (some ⟨y, 0, none⟩), .int .u8 p, ev ia ib, ev oa oq] w (Told (.int .i64 7) w) := by
  have hU : Upto NoS w ((w.alloc (.cells #[.int .u32 (ia : Nat), .int .u16 (ib : Nat)] 26)).alloc (.cells #[.int .u32 (oa : Nat), .int .u16 (oq : Nat)] 26)) := ((Upto.refl _ w).alloc _).alloc _
  have h1 := h.upto hU
  have hl := h.many
  have n0 := new_21 w #[.int .u32 (ia : Nat), .int .u16 (ib : Nat)] #[.int .u32 (oa : Nat), .int .u16 (oq : Nat)] 26 26 0 (.int .u32 (ia : Nat)) rfl
  have n1 := new_21 w #[.int .u32 (ia : Nat), .int .u16 (ib : Nat)] #[.int .u32 (oa : Nat), .int .u16 (oq : Nat)] 26 26 1 (.int .u16 (ib : Nat)) rfl
  have m0 := new_22 w #[.int .u32 (ia : Nat), .int .u16 (ib : Nat)] #[.int .u32 (oa : Nat), .int .u16 (oq : Nat)] 26 26 0 (.int .u32 (oa : Nat)) rfl
  have m1 := new_22 w #[.int .u32 (ia : Nat), .int .u16 (ib : Nat)] #[.int .u32 (oa : Nat), .int .u16 (oq : Nat)] 26 26 1 (.int .u16 (oq : Nat)) rfl
  have HV : Hid (vX L (pI p ia ib) = (k : Nat)) := Lib.hid (vX_of hf hk)
  have z0 : (0 : Int) ≤ (k : Int) := by omega
  have z1 : (k : Int) < (L.length : Int) := by omega
  obtain ⟨r, hr⟩ : ∃ r, rwAt L k = r := ⟨_, rfl⟩
  rw [hr] at hne
  have HRK := Lib.hid hr
  obtain ⟨p', oa', oq', ia', ib', lv', hd'⟩ := r
  have hb : (!(oa' == oa && oq' == oq)) = true := by
    rw [Bool.not_eq_true', Bool.and_eq_false_iff]
    by_cases e : oa' = oa
    · right; simpa using fun e' => hne ⟨e, e'⟩
    · left; simpa using e
  have hq := fun w' => neq26 w' oa' oq' oa oq
  have hg := fun w' x y => guard26n w' x y oa' oq' oa oq
  rw [hb] at hq
  clear hne hb hr hf h
  go_enter Try.func37, Try.ntmps37
  go_upto_region 2 with (go_at_call 26; refine (Of_r _ base y ad c L p ia ib h1).mono ?_; rw [HV.out]; rintro e w1 ⟨rfl, hu⟩; have n0' := hu.keep n0 id; have n1' := hu.keep n1 id; have m0' := hu.keep m0 id; have m1' := hu.keep m1 id; clear n0 n1 m0 m1; replace h1 := h1.upto hu; have hc := h1.c0; obtain ⟨q, e9, d0, d1, d2, d3, d4, d5, d6⟩ := h1.at_ hk; rw [HRK.out] at d0 d1 d2 d3 d4 d5 d6; subst e9; simp only at d0 d1 d2 d3 d4 d5 d6; have f6 := h1.frozen (k * 7 + 6))
  have hU1 := hU.trans hu
  have HU1 := Lib.hid hU1
  clear hU hU1 hu
  go_quiet (fail)
  go_wp2
  go_ret
  exact ⟨rfl, HU1.out.drewN _⟩
set_option maxHeartbeats 1000000 in
theorem Fix_r_held (w : World) (base y : Nat) (ad : Option Addr) (c : Nat) (L : List Rw) (p ia ib oa oq : Nat) (k : Nat) (h : RIn w base y ad c L) (hf : iI L p ia ib = k) (hk : k < L.length) (he : (rwAt L k).oa = oa ∧ (rwAt L k).ob = oq) (hm : (rwAt L k).held < 1000000) :
    Calls Try.prog 37 #[.pointer (some ⟨y, 0, none⟩), .int .u8 p, ev ia ib, ev oa oq] w (RNewP base y ad (L.set k (hold (rwAt L k))) w (.int .i64 0)) := by
  have hU : Upto NoS w ((w.alloc (.cells #[.int .u32 (ia : Nat), .int .u16 (ib : Nat)] 26)).alloc (.cells #[.int .u32 (oa : Nat), .int .u16 (oq : Nat)] 26)) := ((Upto.refl _ w).alloc _).alloc _
  have h1 := h.upto hU
  have hl := h.many
  have n0 := new_21 w #[.int .u32 (ia : Nat), .int .u16 (ib : Nat)] #[.int .u32 (oa : Nat), .int .u16 (oq : Nat)] 26 26 0 (.int .u32 (ia : Nat)) rfl
  have n1 := new_21 w #[.int .u32 (ia : Nat), .int .u16 (ib : Nat)] #[.int .u32 (oa : Nat), .int .u16 (oq : Nat)] 26 26 1 (.int .u16 (ib : Nat)) rfl
  have m0 := new_22 w #[.int .u32 (ia : Nat), .int .u16 (ib : Nat)] #[.int .u32 (oa : Nat), .int .u16 (oq : Nat)] 26 26 0 (.int .u32 (oa : Nat)) rfl
  have m1 := new_22 w #[.int .u32 (ia : Nat), .int .u16 (ib : Nat)] #[.int .u32 (oa : Nat), .int .u16 (oq : Nat)] 26 26 1 (.int .u16 (oq : Nat)) rfl
  have HV : Hid (vX L (pI p ia ib) = (k : Nat)) := Lib.hid (vX_of hf hk)
  have z0 : (0 : Int) ≤ (k : Int) := by omega
  have z1 : (k : Int) < (L.length : Int) := by omega
  obtain ⟨r, hr⟩ : ∃ r, rwAt L k = r := ⟨_, rfl⟩
  rw [hr] at he hm
  have HRK := Lib.hid hr
  obtain ⟨p', oa', oq', ia', ib', lv', hd'⟩ := r
  have he : oa' = oa ∧ oq' = oq := he
  obtain ⟨rfl, rfl⟩ := he
  have hm : hd' < 1000000 := hm
  have hb : (!(oa' == oa' && oq' == oq')) = false := by simp
  have hq := fun w' => neq26 w' oa' oq' oa' oq'
  have hg := fun w' x y => guard26n w' x y oa' oq' oa' oq'
  rw [hb] at hq
  have hwr : IntKind.i64.wrap ((hd' : Int) + 1) = (hd' : Int) + 1 := IntWalk.i64_in _ (by omega)
  have HH := Lib.hid h
  clear hb hr hf h
  go_enter Try.func37, Try.ntmps37
  go_upto_region 2 with (go_at_call 26; refine (Of_r _ base y ad c L p ia ib h1).mono ?_; rw [HV.out]; rintro e w1 ⟨rfl, hu⟩; have n0' := hu.keep n0 id; have n1' := hu.keep n1 id; have m0' := hu.keep m0 id; have m1' := hu.keep m1 id; clear n0 n1 m0 m1; replace h1 := h1.upto hu; have hc := h1.c0; obtain ⟨q, e9, d0, d1, d2, d3, d4, d5, d6⟩ := h1.at_ hk; rw [HRK.out] at d0 d1 d2 d3 d4 d5 d6; subst e9; simp only at d0 d1 d2 d3 d4 d5 d6; have f6 := h1.frozen (k * 7 + 6))
  have hU1 := hU.trans hu
  have HU1 := Lib.hid hU1
  clear hU hU1 hu
  go_quiet (fail)
  have H4 := h1.drewN nq
  have hU4 := HU1.out.drewN nq
  have d6' : (w1.drewN nq).cell? ⟨q, k * 7 + 6, none⟩ = _ := d6
  have f6' : (w1.drewN nq).frozen? ⟨q, k * 7 + 6, none⟩ = _ := f6
  have hc' : (w1.drewN nq).cell? ⟨y, 0, none⟩ = _ := hc
  generalize w1.drewN nq = W4 at H4 hU4 d6' f6' hc' ⊢
  have H5 := Lib.hid (H4.holds hk (by rw [HRK.out]; exact hm) (u := (hd' : Int) + 1) (by rw [HRK.out]))
  have HU5 := Lib.hid ((hU4.mono (T := fun i => i = q) (fun _ _ e => e.elim)).setB (b := q) (o := k * 7 + 6) rfl (.int .i64 ((hd' : Int) + 1)))
  clear h1 d0 d1 d2 d3 d4 d5 d6 f6 hc H4 hU4
  go_wp2
  go_ret
  exact ⟨rfl, _, _, H5.out, HU5.out.mono (fun i _ e => .inr (by rw [show i = q from e]; rfl)), fun i hi => .inl hi⟩
set_option maxHeartbeats 1000000 in
theorem Fix_r_busy (w : World) (base y : Nat) (ad : Option Addr) (c : Nat) (L : List Rw) (p ia ib oa oq : Nat) (h : RIn w base y ad c L) (hf : ¬ iI L p ia ib < L.length) (hk : iO L p oa oq < L.length) :
    Calls Try.prog 37 #[.pointer (some ⟨y, 0, none⟩), .int .u8 p, ev ia ib, ev oa oq] w (Told (.int .i64 10) w) := by
  have hU : Upto NoS w ((w.alloc (.cells #[.int .u32 (ia : Nat), .int .u16 (ib : Nat)] 26)).alloc (.cells #[.int .u32 (oa : Nat), .int .u16 (oq : Nat)] 26)) := ((Upto.refl _ w).alloc _).alloc _
  have h1 := h.upto hU
  have hl := h.many
  have n0 := new_21 w #[.int .u32 (ia : Nat), .int .u16 (ib : Nat)] #[.int .u32 (oa : Nat), .int .u16 (oq : Nat)] 26 26 0 (.int .u32 (ia : Nat)) rfl
  have n1 := new_21 w #[.int .u32 (ia : Nat), .int .u16 (ib : Nat)] #[.int .u32 (oa : Nat), .int .u16 (oq : Nat)] 26 26 1 (.int .u16 (ib : Nat)) rfl
  have m0 := new_22 w #[.int .u32 (ia : Nat), .int .u16 (ib : Nat)] #[.int .u32 (oa : Nat), .int .u16 (oq : Nat)] 26 26 0 (.int .u32 (oa : Nat)) rfl
  have m1 := new_22 w #[.int .u32 (ia : Nat), .int .u16 (ib : Nat)] #[.int .u32 (oa : Nat), .int .u16 (oq : Nat)] 26 26 1 (.int .u16 (oq : Nat)) rfl
  have HV : Hid (vX L (pI p ia ib) = -1) := Lib.hid (vX_no hf)
  have HO : Hid (vX L (pO p oa oq) = (iO L p oa oq : Nat)) := Lib.hid (vX_of rfl hk)
  generalize iO L p oa oq = k at HO
  have z0 : (0 : Int) ≤ (k : Int) := by omega
  clear h hf hk
  go_enter Try.func37, Try.ntmps37
  go_upto_region 2 with (go_at_call 26; refine (Of_r _ base y ad c L p ia ib h1).mono ?_; rw [HV.out]; rintro e w1 ⟨rfl, hu⟩; have n0' := hu.keep n0 id; have n1' := hu.keep n1 id; have m0' := hu.keep m0 id; have m1' := hu.keep m1 id; clear n0 n1 m0 m1)
  go_quiet (fail)
  have h2 := (h1.upto hu).drewN nq
  have hU1 := (hU.trans hu).drewN nq
  have x0 : (w1.drewN nq).cell? ⟨w.heap.size + 1, 0, none⟩ = _ := m0'
  have x1 : (w1.drewN nq).cell? ⟨w.heap.size + 1, 1, none⟩ = _ := m1'
  go_wp2_with (go_at_call 27; refine (Owner_r _ base y ad c L p oa oq h2).mono ?_; rw [HO.out]; rintro e w2 ⟨rfl, hu2⟩)
  go_ret
  exact ⟨rfl, hU1.trans hu2⟩
set_option maxHeartbeats 1000000 in
theorem Fix_r_new (w : World) (base y : Nat) (ad : Option Addr) (c : Nat) (L : List Rw) (p ia ib oa oq : Nat) (h : RIn w base y ad c L) (hf : ¬ iI L p ia ib < L.length) (hk : ¬ iO L p oa oq < L.length) (hr : (newR p oa oq ia ib).Ok) (hm : L.length < 1000) :
    Calls Try.prog 37 #[.pointer (some ⟨y, 0, none⟩), .int .u8 p, ev ia ib, ev oa oq] w (RNewP base y ad (insR L (newR p oa oq ia ib)) w (.int .i64 0)) := by
  have hU : Upto NoS w ((w.alloc (.cells #[.int .u32 (ia : Nat), .int .u16 (ib : Nat)] 26)).alloc (.cells #[.int .u32 (oa : Nat), .int .u16 (oq : Nat)] 26)) := ((Upto.refl _ w).alloc _).alloc _
  have h1 := h.upto hU
  have hl := h.many
  have n0 := new_21 w #[.int .u32 (ia : Nat), .int .u16 (ib : Nat)] #[.int .u32 (oa : Nat), .int .u16 (oq : Nat)] 26 26 0 (.int .u32 (ia : Nat)) rfl
  have n1 := new_21 w #[.int .u32 (ia : Nat), .int .u16 (ib : Nat)] #[.int .u32 (oa : Nat), .int .u16 (oq : Nat)] 26 26 1 (.int .u16 (ib : Nat)) rfl
  have m0 := new_22 w #[.int .u32 (ia : Nat), .int .u16 (ib : Nat)] #[.int .u32 (oa : Nat), .int .u16 (oq : Nat)] 26 26 0 (.int .u32 (oa : Nat)) rfl
  have m1 := new_22 w #[.int .u32 (ia : Nat), .int .u16 (ib : Nat)] #[.int .u32 (oa : Nat), .int .u16 (oq : Nat)] 26 26 1 (.int .u16 (oq : Nat)) rfl
  have HV : Hid (vX L (pI p ia ib) = -1) := Lib.hid (vX_no hf)
  have HO : Hid (vX L (pO p oa oq) = -1) := Lib.hid (vX_no hk)
  clear h hf hk
  go_enter Try.func37, Try.ntmps37
  go_upto_region 2 with (go_at_call 26; refine (Of_r _ base y ad c L p ia ib h1).mono ?_; rw [HV.out]; rintro e w1 ⟨rfl, hu⟩; have n0' := hu.keep n0 id; have n1' := hu.keep n1 id; have m0' := hu.keep m0 id; have m1' := hu.keep m1 id; clear n0 n1 m0 m1)
  go_quiet (fail)
  have h2 := (h1.upto hu).drewN nq
  have hU1 := (hU.trans hu).drewN nq
  have x0 : (w1.drewN nq).cell? ⟨w.heap.size + 1, 0, none⟩ = _ := m0'
  have x1 : (w1.drewN nq).cell? ⟨w.heap.size + 1, 1, none⟩ = _ := m1'
  have x2 : (w1.drewN nq).cell? ⟨w.heap.size, 0, none⟩ = _ := n0'
  have x3 : (w1.drewN nq).cell? ⟨w.heap.size, 1, none⟩ = _ := n1'
  clear n0' n1' m0' m1' hu
  generalize w1.drewN nq = W4 at h2 hU1 x0 x1 x2 x3 ⊢
  go_wp2_with (first
    | (go_at_call 27; refine (Owner_r _ base y ad c L p oa oq h2).mono ?_; rw [HO.out]; rintro e w2 ⟨rfl, hu2⟩; have h3 := h2.upto hu2; have hU2 := hU1.trans hu2; replace x0 := hu2.keep x0 id; replace x1 := hu2.keep x1 id; replace x2 := hu2.keep x2 id; replace x3 := hu2.keep x3 id)
    | (go_at_call 48; refine (put_r _ base y ad c L (newR p oa oq ia ib) h3 hr hm).mono ?_; rintro e w3 ⟨rfl, hp⟩))
  go_ret
  exact RNewP.wrap hU2 ⟨rfl, hp⟩
theorem Fix_r (w : World) (base y : Nat) (ad : Option Addr) (c : Nat) (L : List Rw) (p ia ib oa oq : Nat) (h : RIn w base y ad c L) (hp : p < 256) (hia : ia < 4294967296) (hib : ib < 65536) (hoa : oa < 4294967296) (hoq : oq < 65536) (hm : L.length < 1000) (hh : ∀ r ∈ L, r.held < 1000000) :
    Calls Try.prog 37 #[.pointer (some ⟨y, 0, none⟩), .int .u8 p, ev ia ib, ev oa oq] w (RNewP base y ad (fxL L p ia ib oa oq).2 w (.int .i64 (fxL L p ia ib oa oq).1)) := by
  unfold fxL
  by_cases hk : iI L p ia ib < L.length
  · rw [if_pos hk]
    by_cases he : (rwAt L (iI L p ia ib)).oa = oa ∧ (rwAt L (iI L p ia ib)).ob = oq
    · rw [if_pos he]
      exact Fix_r_held w base y ad c L p ia ib oa oq _ h rfl hk he (hh _ (rwAt_mem L hk))
    · rw [if_neg he]
      exact (Fix_r_have w base y ad c L p ia ib oa oq _ h rfl hk he).mono fun _ _ ht => RNewP.of_told h ht
  · rw [if_neg hk]
    by_cases ho : iO L p oa oq < L.length
    · rw [if_pos ho]
      exact (Fix_r_busy w base y ad c L p ia ib oa oq h hk ho).mono fun _ _ ht => RNewP.of_told h ht
    · rw [if_neg ho]
      exact Fix_r_new w base y ad c L p ia ib oa oq h hk ho ⟨hp, hoa, hoq, hia, hib, by simp [newR], by simp [newR]⟩ hm
end Go.Proofs.Ytfiblchdfacdiaa
