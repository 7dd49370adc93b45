/- The document's change, walked: Confirm, Drop, Release. -/
import Derived.Test.YtfiblchdfacdiaaRfB
import Derived.Test.YtfiblchdfacdiaaLastOp
import Derived.Test.YtfiblchdfacdiaaWalkE
import Derived.Test.YtfiblchdfacdiaaWalkG
namespace Go.Proofs.Ytfiblchdfacdiaa
open Go Go.RowKit Go.Deep Go.Maps

/-- What a method leaves that may lay its rows anew. -/
def RNewP (base y : Nat) (a : Option Addr) (L' : List Rw) (w : World) (v : Value) (e : Ending) (w' : World) : Prop :=
  e = .returned v ∧ ∃ a' c', RIn w' base y a' c' L' ∧ Upto (RfS y a) w w' ∧ ∀ k, RfS y a' k → RfS y a k ∨ w.heap.size ≤ k
theorem RNewP.of_told {base y : Nat} {a : Option Addr} {c : Nat} {L : List Rw} {w : World} {v : Value} (h : RIn w base y a c L) {e : Ending} {w' : World} (ht : Told v w e w') : RNewP base y a L w v e w' :=
  ⟨ht.1, a, c, h.upto ht.2, ht.2.mono (fun _ _ h => h.elim), fun k hk => .inl hk⟩
theorem wcl_set (L : List Rw) (k : Nat) (r : Rw) (hk : k < L.length) (h : (rwAt L k).p = r.p ∧ (rwAt L k).oa = r.oa ∧ (rwAt L k).ob = r.ob ∧ (rwAt L k).ia = r.ia ∧ (rwAt L k).ib = r.ib) :
    wcl (L.set k r) = ((wcl L).set (k * 7 + 6) (.int .i64 (r.held : Nat))).set (k * 7 + 5) (.int .i64 (r.live : Nat)) := by
  induction L generalizing k with
  | nil => simp at hk
  | cons s l ih =>
    cases k with
    | zero =>
      obtain ⟨e1, e2, e3, e4, e5⟩ := h
      have e1 : s.p = r.p := e1
      have e2 : s.oa = r.oa := e2
      have e3 : s.ob = r.ob := e3
      have e4 : s.ia = r.ia := e4
      have e5 : s.ib = r.ib := e5
      simp [wcl, e1, e2, e3, e4, e5]
    | succ k =>
      have := ih k (by simpa using hk) h
      rw [List.set_cons_succ, show wcl (s :: l.set k r) = wcs s ++ wcl (l.set k r) from rfl, this, show wcl (s :: l) = wcs s ++ wcl l from rfl]
      rw [List.set_append_right (h := by show 7 ≤ _; omega), List.set_append_right (h := by show 7 ≤ _; omega)]
      simp only [show (wcs s).length = 7 from rfl]
      rw [show (k + 1) * 7 + 6 - 7 = k * 7 + 6 by omega, show (k + 1) * 7 + 5 - 7 = k * 7 + 5 by omega]
theorem rwAt_set (L : List Rw) (k : Nat) (r : Rw) (hk : k < L.length) : rwAt (L.set k r) k = r := by
  rw [rwAt_get _ (by simpa using hk)]
  simp
theorem mem_set {L : List Rw} {k : Nat} {r s : Rw} (h : s ∈ L.set k r) : s ∈ L ∨ s = r := List.mem_or_eq_of_mem_set h
/-- A row is changed. -/
theorem RIn.upd {w : World} {base y q c : Nat} {L : List Rw} (h : RIn w base y (some ⟨q, 0, none⟩) c L) {k : Nat} (hk : k < L.length) {r : Rw} (hr : r.Ok) (he : (rwAt L k).p = r.p ∧ (rwAt L k).oa = r.oa ∧ (rwAt L k).ob = r.ob ∧ (rwAt L k).ia = r.ia ∧ (rwAt L k).ib = r.ib)
    {u v : Int} (hu : u = (r.held : Nat)) (hv : v = (r.live : Nat)) :
    RIn ((w.setCell ⟨q, k * 7 + 6, none⟩ (.int .i64 u)).setCell ⟨q, k * 7 + 5, none⟩ (.int .i64 v)) base y (some ⟨q, 0, none⟩) c (L.set k r) := by
  subst hu; subst hv
  have h1 := (h.own.stored (k * 7 + 6) (.int .i64 (r.held : Nat))).1
  have h2 := (h1.stored (k * 7 + 5) (.int .i64 (r.live : Nat))).1
  rw [← wcl_set L k r hk he] at h2
  have hne : ¬ y = q := fun e => h.ne (by rw [e]; rfl)
  have hU : Upto (fun i => i = q) w ((w.setCell ⟨q, k * 7 + 6, none⟩ (.int .i64 (r.held : Nat))).setCell ⟨q, k * 7 + 5, none⟩ (.int .i64 (r.live : Nat))) := ((Upto.refl (fun i => i = q) w).setB rfl _).setB rfl _
  refine ⟨?_, ?_, fun s hs => (mem_set hs).elim (h.ok s) (fun e => by rw [e]; exact hr), by rw [List.length_set]; exact h.many, h.ne, h.lo⟩
  · rw [List.length_set]; exact hU.row h.row hne
  · rw [List.length_set]; exact h2
theorem vX_of {L : List Rw} {P : Rw → Bool} {k : Nat} (h : L.findIdx P = k) (hk : k < L.length) : vX L P = (k : Nat) := by unfold vX; rw [h, if_pos hk]
theorem vX_no {L : List Rw} {P : Rw → Bool} (h : ¬ L.findIdx P < L.length) : vX L P = -1 := by unfold vX; rw [if_neg h]

theorem conf_r_no (w : World) (base y : Nat) (ad : Option Addr) (c : Nat) (L : List Rw) (p a b : Nat) (h : RIn w base y ad c L) (hf : ¬ L.findIdx (pO p a b) < L.length) :
    Calls Try.prog 49 #[.pointer (some ⟨y, 0, none⟩), .int .u8 p, ev a b, .int .i64 (-1), .int .i64 (1)] w (Told (.int .i64 6) w) := by
  have hU : Upto NoS w (w.alloc (.cells #[.int .u32 (a : Nat), .int .u16 (b : Nat)] 26)) := (Upto.refl _ w).alloc _
  have h1 := h.upto hU
  have hl := h.many
  have n0 := new_1 w #[.int .u32 (a : Nat), .int .u16 (b : Nat)] 26 0 (.int .u32 (a : Nat)) rfl
  have n1 := new_1 w #[.int .u32 (a : Nat), .int .u16 (b : Nat)] 26 1 (.int .u16 (b : Nat)) rfl
  have HV := Lib.hid (vX_no hf)
  clear h hf
  go_enter Try.func49, Try.ntmps49
  go_wp2_with (go_at_call 27; refine (Owner_r _ base y ad c L p a b h1).mono ?_; rw [HV.out]; rintro e w1 ⟨rfl, hu⟩)
  go_ret
  exact ⟨rfl, hU.trans hu⟩
set_option maxHeartbeats 1000000 in
theorem conf_r_zero (w : World) (base y : Nat) (ad : Option Addr) (c : Nat) (L : List Rw) (p a b k : Nat) (h : RIn w base y ad c L) (hf : L.findIdx (pO p a b) = k) (hk : k < L.length) (h0 : (rwAt L k).held = 0) :
    Calls Try.prog 49 #[.pointer (some ⟨y, 0, none⟩), .int .u8 p, ev a b, .int .i64 (-1), .int .i64 (1)] w (Told (.int .i64 6) w) := by
  have hU : Upto NoS w (w.alloc (.cells #[.int .u32 (a : Nat), .int .u16 (b : Nat)] 26)) := (Upto.refl _ w).alloc _
  have h1 := h.upto hU
  have hl := h.many
  have n0 := new_1 w #[.int .u32 (a : Nat), .int .u16 (b : Nat)] 26 0 (.int .u32 (a : Nat)) rfl
  have n1 := new_1 w #[.int .u32 (a : Nat), .int .u16 (b : Nat)] 26 1 (.int .u16 (b : Nat)) rfl
  have HV := Lib.hid (vX_of hf hk)
  have z0 : (0 : Int) ≤ (k : Int) := by omega
  have z1 : (k : Int) < (L.length : Int) := by omega
  have z2 : decide ((k : Int) < 0) = false := by simp
  have hok := h.ok _ (rwAt_mem L hk)
  obtain ⟨r, hr⟩ : ∃ r, rwAt L k = r := ⟨_, rfl⟩
  rw [hr] at hok h0
  have HRK := Lib.hid hr
  obtain ⟨p', oa', oq', ia', ib', lv', hd'⟩ := r
  have g1 : lv' ≤ 1000000 := hok.live
  have g2 : hd' ≤ 1000000 := hok.held
  have HOK := Lib.hid hok
  obtain ⟨q, rfl, _⟩ := h.at_ hk
  clear hr hok hf
  have h0 : hd' = 0 := h0
  subst h0
  go_enter Try.func49, Try.ntmps49
  go_wp2_with (go_at_call 27; refine (Owner_r _ base y _ c L p a b h1).mono ?_; rw [HV.out]; rintro e w1 ⟨rfl, hu⟩; replace h1 := h1.upto hu; have hc := h1.c0; obtain ⟨q', e9, d0, d1, d2, d3, d4, d5, d6⟩ := h1.at_ hk; rw [HRK.out] at d0 d1 d2 d3 d4 d5 d6; cases e9; simp only at d0 d1 d2 d3 d4 d5 d6; have f5 := h1.frozen (k * 7 + 5); have f6 := h1.frozen (k * 7 + 6))
  go_ret
  exact ⟨rfl, hU.trans hu⟩
set_option maxRecDepth 100000 in
set_option maxHeartbeats 2000000 in
theorem conf_r_keep (w : World) (base y : Nat) (ad : Option Addr) (c : Nat) (L : List Rw) (p a b k : Nat) (h : RIn w base y ad c L) (hf : L.findIdx (pO p a b) = k) (hk : k < L.length) (h0 : 0 < (rwAt L k).held) (hm : (rwAt L k).live < 1000000) :
    Calls Try.prog 49 #[.pointer (some ⟨y, 0, none⟩), .int .u8 p, ev a b, .int .i64 (-1), .int .i64 (1)] w (RNewP base y ad (L.set k (conf (rwAt L k))) w (.int .i64 0)) := by
  have hU : Upto NoS w (w.alloc (.cells #[.int .u32 (a : Nat), .int .u16 (b : Nat)] 26)) := (Upto.refl _ w).alloc _
  have h1 := h.upto hU
  have hl := h.many
  have n0 := new_1 w #[.int .u32 (a : Nat), .int .u16 (b : Nat)] 26 0 (.int .u32 (a : Nat)) rfl
  have n1 := new_1 w #[.int .u32 (a : Nat), .int .u16 (b : Nat)] 26 1 (.int .u16 (b : Nat)) rfl
  have HV := Lib.hid (vX_of hf hk)
  have z0 : (0 : Int) ≤ (k : Int) := by omega
  have z1 : (k : Int) < (L.length : Int) := by omega
  have z2 : decide ((k : Int) < 0) = false := by simp
  have hok := h.ok _ (rwAt_mem L hk)
  obtain ⟨r, hr⟩ : ∃ r, rwAt L k = r := ⟨_, rfl⟩
  rw [hr] at hok h0 hm ⊢
  have HRK := Lib.hid hr
  obtain ⟨p', oa', oq', ia', ib', lv', hd'⟩ := r
  have g1 : lv' ≤ 1000000 := hok.live
  have g2 : hd' ≤ 1000000 := hok.held
  have HOK := Lib.hid hok
  obtain ⟨q, rfl, _⟩ := h.at_ hk
  clear hr hok hf
  have h0 : 0 < hd' := h0
  have hm : lv' < 1000000 := hm
  have y1 : ((hd' : Int) == 0) = false := by simp; omega
  have hw1 : IntKind.i64.wrap ((hd' : Int) + -1) = (hd' : Int) - 1 := by rw [IntWalk.i64_in _ (by omega)]; omega
  have hw1b : IntKind.i64.wrap ((hd' : Int) - 1) = (hd' : Int) - 1 := IntWalk.i64_in _ (by omega)
  have hw2 : IntKind.i64.wrap ((lv' : Int) + 1) = (lv' : Int) + 1 := IntWalk.i64_in _ (by omega)
  have HH := Lib.hid h
  clear h
  go_enter Try.func49, Try.ntmps49
  go_upto_region 4 with (go_at_call 27; refine (Owner_r _ base y _ c L p a b h1).mono ?_; rw [HV.out]; rintro e w1 ⟨rfl, hu⟩; replace h1 := h1.upto hu; have hc := h1.c0; obtain ⟨q', e9, d0, d1, d2, d3, d4, d5, d6⟩ := h1.at_ hk; rw [HRK.out] at d0 d1 d2 d3 d4 d5 d6; cases e9; simp only at d0 d1 d2 d3 d4 d5 d6; have f5 := h1.frozen (k * 7 + 5); have f6 := h1.frozen (k * 7 + 6))
  have hU1 := hU.trans hu
  have H5 := (h1.upd hk (r := conf ⟨p', oa', oq', ia', ib', lv', hd'⟩) ⟨HOK.out.p, HOK.out.oa, HOK.out.ob, HOK.out.ia, HOK.out.ib, by show lv' + 1 ≤ _; omega, by show hd' - 1 ≤ _; omega⟩ (by rw [HRK.out]; exact ⟨rfl, rfl, rfl, rfl, rfl⟩) (u := (hd' : Int) - 1) (v := (lv' : Int) + 1) (by show _ = ((hd' - 1 : Nat) : Int); omega) (by show _ = ((lv' + 1 : Nat) : Int); omega)).drew
  have hU5 := ((((Upto.refl (fun i => i = q) w1).setB (b := q) (o := k * 7 + 6) rfl (.int .i64 ((hd' : Int) - 1))).setB (b := q) (o := k * 7 + 5) rfl (.int .i64 ((lv' : Int) + 1)))).drew
  have HU1 := Lib.hid hU1
  clear hu hU hU1 n0 n1
  go_region
  clear d0 d1 d2 d3 d4 d5 d6 f5 f6 hc h1
  generalize ((w1.setCell ⟨q, k * 7 + 6, none⟩ (.int .i64 ((hd' : Int) - 1))).setCell ⟨q, k * 7 + 5, none⟩ (.int .i64 ((lv' : Int) + 1))).drew = W5 at H5 hU5 ⊢
  have HU5 := Lib.hid ((HU1.out.mono (T := fun i => i = q) (fun _ _ e => e.elim)).trans hU5)
  clear hU5 HU1
  have hk5 : k < (L.set k (conf ⟨p', oa', oq', ia', ib', lv', hd'⟩)).length := by rw [List.length_set]; exact hk
  obtain ⟨q', e9, d0, d1, d2, d3, d4, d5, d6⟩ := H5.at_ hk5
  rw [rwAt_set L k _ hk] at d0 d1 d2 d3 d4 d5 d6
  cases e9
  replace d5 : W5.cell? ⟨q, k * 7 + 5, none⟩ = some (.int .i64 ((lv' + 1 : Nat) : Int)) := d5
  replace d6 : W5.cell? ⟨q, k * 7 + 6, none⟩ = some (.int .i64 ((hd' - 1 : Nat) : Int)) := d6
  have hc := H5.c0
  rw [List.length_set] at hc
  obtain ⟨nh, hnh⟩ : ∃ n : Nat, hd' - 1 = n := ⟨_, rfl⟩
  obtain ⟨nl, hnl⟩ : ∃ n : Nat, lv' + 1 = n := ⟨_, rfl⟩
  rw [hnh] at d6
  rw [hnl] at d5
  have H5 := Lib.hid H5
  have y2 : ((nl : Int) == 0) = false := by simp; omega
  by_cases hz : nh = 0
  · subst hz
    go_wp2_with fail
    go_ret
    exact ⟨rfl, _, _, H5.out, HU5.out.mono (fun i _ e => .inr (by rw [show i = q from e]; rfl)), fun i hi => .inl hi⟩
  · have y3 : ((nh : Int) == 0) = false := by simp; omega
    go_wp2_with fail
    go_ret
    exact ⟨rfl, _, _, H5.out, HU5.out.mono (fun i _ e => .inr (by rw [show i = q from e]; rfl)), fun i hi => .inl hi⟩
end Go.Proofs.Ytfiblchdfacdiaa
