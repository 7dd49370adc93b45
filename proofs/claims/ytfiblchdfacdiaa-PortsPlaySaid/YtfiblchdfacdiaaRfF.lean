/- The document's Take, walked. -/
import Derived.Test.YtfiblchdfacdiaaRfE
import Derived.Test.YtfiblchdfacdiaaPick
namespace Go.Proofs.Ytfiblchdfacdiaa
open Go Go.RowKit Go.Deep Go.Maps

theorem res_et {fn : Func} {p u : Tmp} (h : fn.results = #[.cell p 26, .tmp u]) (tmps : Array Value) {w : World} {k a b : Nat} (hp : tmps.getD p undef = .pointer (some ⟨k, 0, none⟩))
    (h0 : w.cell? ⟨k, 0, none⟩ = some (.int .u32 (a : Nat))) (h1 : w.cell? ⟨k, 1, none⟩ = some (.int .u16 (b : Nat))) :
    (results fn tmps).run Try.prog w = .ok (.tuple #[ev a b, tmps.getD u undef]) w := by
  have hp' : tmps[p]?.getD undef = .pointer (some ⟨k, 0, none⟩) := by simpa using hp
  simp [results, h, go_sem, hp', h0, h1]
abbrev z26 (i : Nat) : Value := if i = 0 then .int .u32 0 else .int .u16 0
theorem zero26 (w : World) : (w.alloc (.cells #[.int .u32 0, .int .u16 0] 26)).rowIs w.heap.size 26 2 z26 :=
  World.rowIs_alloc w #[.int .u32 0, .int .u16 0] 26 _ (fun i hi => by
    have : i < 2 := hi
    match i, this with
    | 0, _ => rfl | 1, _ => rfl)
/-- What Take's rounds keep. -/
structure TkI (w wr : World) (base y : Nat) (ad : Option Addr) (c : Nat) (L : List Rw) (W : Ws) : Prop where
  u : Upto NoS w wr
  h : RIn wr base y ad c L
  r : wr.rowIs w.heap.size 34 7 (wF W)
  e : wr.rowIs (w.heap.size + 1) 26 2 z26
theorem TkI.quiet {w wr w' : World} {base y : Nat} {ad : Option Addr} {c : Nat} {L : List Rw} {W : Ws} (h : TkI w wr base y ad c L W) (hu : Upto NoS wr w') : TkI w w' base y ad c L W :=
  ⟨h.u.trans hu, h.h.upto hu, hu.row h.r id, hu.row h.e id⟩
theorem TkI.fin {w wr w' : World} {base y : Nat} {ad : Option Addr} {c : Nat} {L : List Rw} {W : Ws} (h : TkI w wr base y ad c L W) (hr : w'.rowIs (w.heap.size + 1) 26 2 z26) (a b : Nat) :
    ((w'.setCell ⟨w.heap.size + 1, 0, none⟩ (.int .u32 (a : Nat))).setCell ⟨w.heap.size + 1, 1, none⟩ (.int .u16 (b : Nat))).cell? ⟨w.heap.size + 1, 0, none⟩ = some (.int .u32 (a : Nat)) ∧
    ((w'.setCell ⟨w.heap.size + 1, 0, none⟩ (.int .u32 (a : Nat))).setCell ⟨w.heap.size + 1, 1, none⟩ (.int .u16 (b : Nat))).cell? ⟨w.heap.size + 1, 1, none⟩ = some (.int .u16 (b : Nat)) :=
  ⟨set2_0 hr _ _, set2_1 hr _ _⟩
theorem fin_u {S : Nat → Prop} {w w' : World} (hu : Upto S w w') (a b : Value) : Upto S w ((w'.setCell ⟨w.heap.size + 1, 0, none⟩ a).setCell ⟨w.heap.size + 1, 1, none⟩ b) := (hu.setNew (by omega) _).setNew (by omega) _
theorem RNewP.fin {base y : Nat} {ad : Option Addr} {c : Nat} {L L' : List Rw} {w w4 w' : World} (h0 : RIn w base y ad c L) (hu : Upto NoS w w4) (hs : w.heap.size + 2 ≤ w4.heap.size) (hl : Laid base y ad L' w4 w') (a b : Value) :
    ∃ a' c', RIn ((w'.setCell ⟨w.heap.size + 1, 0, none⟩ a).setCell ⟨w.heap.size + 1, 1, none⟩ b) base y a' c' L' ∧ Upto (RfS y ad) w ((w'.setCell ⟨w.heap.size + 1, 0, none⟩ a).setCell ⟨w.heap.size + 1, 1, none⟩ b) ∧ ∀ k, RfS y a' k → RfS y ad k ∨ w.heap.size ≤ k := by
  obtain ⟨a', c', h2, h3, h4⟩ := hl
  refine ⟨a', c', h2.gen (T := fun i => i = w.heap.size + 1) (((Upto.refl (fun i => i = w.heap.size + 1) w').setB rfl _).setB rfl _) (fun k hk e => ?_), fin_u ((hu.mono (fun _ _ e => e.elim)).trans h3) _ _, fun k hk => (h4 k hk).imp id (fun e => by omega)⟩
  have hk : k = w.heap.size + 1 := hk
  rcases h4 k e with e | e
  · have := (h0.slt k e).2; omega
  · omega
def tkL (L : List Rw) (W : Ws) : Nat × Nat × Int × List Rw :=
  if 1 ≤ W.fr ∧ W.fr ≤ W.tu then
    if iI L W.p W.ia W.ib < L.length then
      if (rwAt L (iI L W.p W.ia W.ib)).oa = W.ip ∧ W.fr ≤ (rwAt L (iI L W.p W.ia W.ib)).ob ∧ (rwAt L (iI L W.p W.ia W.ib)).ob ≤ W.tu then ((rwAt L (iI L W.p W.ia W.ib)).oa, (rwAt L (iI L W.p W.ia W.ib)).ob, 0, L.set (iI L W.p W.ia W.ib) (hold (rwAt L (iI L W.p W.ia W.ib)))) else (0, 0, 7, L)
    else match pickR L W with
      | some q => (W.ip, q, 0, insR L (newR W.p W.ip q W.ia W.ib))
      | none => (0, 0, 8, L)
  else (0, 0, 2, L)
theorem free_iO (L : List Rw) (p a q : Nat) : freeB L p a q = !decide (iO L p a q < L.length) := by
  unfold freeB iO
  congr 1
  rw [Bool.eq_iff_iff, List.any_eq_true, decide_eq_true_eq, List.findIdx_lt_length]
  rfl

theorem Take_r_arg (w : World) (base y : Nat) (ad : Option Addr) (c : Nat) (L : List Rw) (W : Ws) (h : RIn w base y ad c L) (hW : ¬ (1 ≤ W.fr ∧ W.fr ≤ W.tu)) : Calls Try.prog 41 #[.pointer (some ⟨y, 0, none⟩), wv W] w (Told (.tuple #[ev 0 0, .int .i64 2]) w) := by
  have hU : Upto NoS w ((w.alloc (.cells (wcells W) 34)).alloc (.cells #[.int .u32 0, .int .u16 0] 26)) := ((Upto.refl _ w).alloc _).alloc _
  have hR := (new_wd w W).alloc (.cells #[.int .u32 0, .int .u16 0] 26)
  have hE := zero26 (w.alloc (.cells (wcells W) 34))
  rw [World.size_alloc] at hE
  have HI : Hid (TkI w ((w.alloc (.cells (wcells W) 34)).alloc (.cells #[.int .u32 0, .int .u16 0] 26)) base y ad c L W) := Lib.hid ⟨hU, h.upto hU, hR, hE⟩
  obtain ⟨d0, d1, d2, d3, d4, d5, d6⟩ := wd_cells hR
  have HH := Lib.hid h
  have hsz : w.heap.size + 2 ≤ ((w.alloc (.cells (wcells W) 34)).alloc (.cells #[.int .u32 0, .int .u16 0] 26)).heap.size := by simp
  clear hU hR hE h
  go_enter Try.func41, Try.ntmps41
  go_wp2_with (go_at_call 10; refine (RMay_any _ W false (decide_eq_false hW)).mono ?_; rintro e w1 ⟨rfl, hu1⟩; have HI1 := Lib.hid (HI.out.quiet hu1); have hs1 := Nat.le_trans hsz hu1.size; clear hu1 hsz HI d0 d1 d2 d3 d4 d5 d6; obtain ⟨d0, d1, d2, d3, d4, d5, d6⟩ := wd_cells HI1.out.r; have f0 := HI1.out.e.frozen 0; have f1 := HI1.out.e.frozen 1; have v0 := HI1.out.e.cell (i := 0) (by omega); have v1 := HI1.out.e.cell (i := 1) (by omega))
  obtain ⟨q1, q2⟩ := HI1.out.fin HI1.out.e 0 0
  (try simp only [Exit.inBlock, Exit.then])
  exact bodyPost_ret (res_et Try.results41 _ rfl q1 q2) rfl ⟨rfl, fin_u HI1.out.u _ _⟩

set_option maxHeartbeats 1000000 in
theorem Take_r_have_a (w : World) (base y : Nat) (ad : Option Addr) (c : Nat) (L : List Rw) (W : Ws) (k : Nat) (h : RIn w base y ad c L) (hW : 1 ≤ W.fr ∧ W.fr ≤ W.tu) (hf : iI L W.p W.ia W.ib = k) (hk : k < L.length) (hc : ¬ (rwAt L k).oa = W.ip) : Calls Try.prog 41 #[.pointer (some ⟨y, 0, none⟩), wv W] w (Told (.tuple #[ev 0 0, .int .i64 7]) w) := by
  have HV : Hid (vX L (pI W.p W.ia W.ib) = (k : Nat)) := Lib.hid (vX_of hf hk)
  have z0 : (0 : Int) ≤ (k : Int) := by omega
  have z1 : (k : Int) < (L.length : Int) := by omega
  obtain ⟨q, rfl, _⟩ := h.at_ hk
  obtain ⟨r, hr⟩ : ∃ r, rwAt L k = r := ⟨_, rfl⟩
  rw [hr] at  hc
  have HRK := Lib.hid hr
  obtain ⟨p', oa', oq', ia', ib', lv', hd'⟩ := r
  have hc : ¬ oa' = W.ip := hc
  have b1 : ((oa' : Int) != (W.ip : Int)) = true := by simp; omega
  clear hr hf  hc
  have hU : Upto NoS w ((w.alloc (.cells (wcells W) 34)).alloc (.cells #[.int .u32 0, .int .u16 0] 26)) := ((Upto.refl _ w).alloc _).alloc _
  have hR := (new_wd w W).alloc (.cells #[.int .u32 0, .int .u16 0] 26)
  have hE := zero26 (w.alloc (.cells (wcells W) 34))
  rw [World.size_alloc] at hE
  have HI : Hid (TkI w ((w.alloc (.cells (wcells W) 34)).alloc (.cells #[.int .u32 0, .int .u16 0] 26)) base y (some ⟨q, 0, none⟩) c L W) := Lib.hid ⟨hU, h.upto hU, hR, hE⟩
  obtain ⟨d0, d1, d2, d3, d4, d5, d6⟩ := wd_cells hR
  have HH := Lib.hid h
  have hsz : w.heap.size + 2 ≤ ((w.alloc (.cells (wcells W) 34)).alloc (.cells #[.int .u32 0, .int .u16 0] 26)).heap.size := by simp
  clear hU hR hE h
  go_enter Try.func41, Try.ntmps41
  go_wp2_with (first | (go_at_call 10; refine (RMay_any _ W true (decide_eq_true hW)).mono ?_; rintro e w1 ⟨rfl, hu1⟩; have HI1 := Lib.hid (HI.out.quiet hu1); have hs1 := Nat.le_trans hsz hu1.size; clear hu1 hsz HI d0 d1 d2 d3 d4 d5 d6; obtain ⟨d0, d1, d2, d3, d4, d5, d6⟩ := wd_cells HI1.out.r) | (go_at_call 26; refine (Of_r _ base y _ c L W.p W.ia W.ib HI1.out.h).mono ?_; rw [HV.out]; rintro e w2 ⟨rfl, hu2⟩; have HI2 := Lib.hid (HI1.out.quiet hu2); have hs2 := Nat.le_trans hs1 hu2.size; clear hu2 hs1 HI1 d0 d1 d2 d3 d4 d5 d6; obtain ⟨d0, d1, d2, d3, d4, d5, d6⟩ := wd_cells HI2.out.r; have hc := HI2.out.h.c0; obtain ⟨q', e9, k0, k1, k2, k3, k4, k5, k6⟩ := HI2.out.h.at_ hk; rw [HRK.out] at k0 k1 k2 k3 k4 k5 k6; cases e9; simp only at k0 k1 k2 k3 k4 k5 k6; have g6 := HI2.out.h.frozen (k * 7 + 6); have hEA := HI2.out.e.alloc (.cells #[.int .u32 (oa' : Nat), .int .u16 (oq' : Nat)] 26); have f0 := hEA.frozen 0; have f1 := hEA.frozen 1; have v0 := hEA.cell (i := 0) (by omega); have v1 := hEA.cell (i := 1) (by omega); obtain ⟨x0, x1, x2, x3, x4, x5, x6⟩ := wd_cells (HI2.out.r.alloc (.cells #[.int .u32 (oa' : Nat), .int .u16 (oq' : Nat)] 26))))
  obtain ⟨q1, q2⟩ := (HI2.out.quiet ((Upto.refl NoS w2).alloc (.cells #[.int .u32 (oa' : Nat), .int .u16 (oq' : Nat)] 26))).fin (HI2.out.e.alloc _) 0 0
  (try simp only [Exit.inBlock, Exit.then])
  exact bodyPost_ret (res_et Try.results41 _ rfl q1 q2) rfl ⟨rfl, fin_u (HI2.out.u.alloc _) _ _⟩

set_option maxHeartbeats 1000000 in
theorem Take_r_have_b (w : World) (base y : Nat) (ad : Option Addr) (c : Nat) (L : List Rw) (W : Ws) (k : Nat) (h : RIn w base y ad c L) (hW : 1 ≤ W.fr ∧ W.fr ≤ W.tu) (hf : iI L W.p W.ia W.ib = k) (hk : k < L.length) (hc0 : (rwAt L k).oa = W.ip) (hc : (rwAt L k).ob < W.fr) : Calls Try.prog 41 #[.pointer (some ⟨y, 0, none⟩), wv W] w (Told (.tuple #[ev 0 0, .int .i64 7]) w) := by
  have HV : Hid (vX L (pI W.p W.ia W.ib) = (k : Nat)) := Lib.hid (vX_of hf hk)
  have z0 : (0 : Int) ≤ (k : Int) := by omega
  have z1 : (k : Int) < (L.length : Int) := by omega
  obtain ⟨q, rfl, _⟩ := h.at_ hk
  obtain ⟨r, hr⟩ : ∃ r, rwAt L k = r := ⟨_, rfl⟩
  rw [hr] at hc0 hc
  have HRK := Lib.hid hr
  obtain ⟨p', oa', oq', ia', ib', lv', hd'⟩ := r
  have hc : oq' < W.fr := hc
  have hc0 : oa' = W.ip := hc0
  subst hc0
  have b1 : ((W.ip : Int) != (W.ip : Int)) = false := by simp
  have b2 : decide ((oq' : Int) < W.fr) = true := decide_eq_true (by omega)
  clear hr hf hc
  have hU : Upto NoS w ((w.alloc (.cells (wcells W) 34)).alloc (.cells #[.int .u32 0, .int .u16 0] 26)) := ((Upto.refl _ w).alloc _).alloc _
  have hR := (new_wd w W).alloc (.cells #[.int .u32 0, .int .u16 0] 26)
  have hE := zero26 (w.alloc (.cells (wcells W) 34))
  rw [World.size_alloc] at hE
  have HI : Hid (TkI w ((w.alloc (.cells (wcells W) 34)).alloc (.cells #[.int .u32 0, .int .u16 0] 26)) base y (some ⟨q, 0, none⟩) c L W) := Lib.hid ⟨hU, h.upto hU, hR, hE⟩
  obtain ⟨d0, d1, d2, d3, d4, d5, d6⟩ := wd_cells hR
  have HH := Lib.hid h
  have hsz : w.heap.size + 2 ≤ ((w.alloc (.cells (wcells W) 34)).alloc (.cells #[.int .u32 0, .int .u16 0] 26)).heap.size := by simp
  clear hU hR hE h
  go_enter Try.func41, Try.ntmps41
  go_wp2_with (first | (go_at_call 10; refine (RMay_any _ W true (decide_eq_true hW)).mono ?_; rintro e w1 ⟨rfl, hu1⟩; have HI1 := Lib.hid (HI.out.quiet hu1); have hs1 := Nat.le_trans hsz hu1.size; clear hu1 hsz HI d0 d1 d2 d3 d4 d5 d6; obtain ⟨d0, d1, d2, d3, d4, d5, d6⟩ := wd_cells HI1.out.r) | (go_at_call 26; refine (Of_r _ base y _ c L W.p W.ia W.ib HI1.out.h).mono ?_; rw [HV.out]; rintro e w2 ⟨rfl, hu2⟩; have HI2 := Lib.hid (HI1.out.quiet hu2); have hs2 := Nat.le_trans hs1 hu2.size; clear hu2 hs1 HI1 d0 d1 d2 d3 d4 d5 d6; obtain ⟨d0, d1, d2, d3, d4, d5, d6⟩ := wd_cells HI2.out.r; have hc := HI2.out.h.c0; obtain ⟨q', e9, k0, k1, k2, k3, k4, k5, k6⟩ := HI2.out.h.at_ hk; rw [HRK.out] at k0 k1 k2 k3 k4 k5 k6; cases e9; simp only at k0 k1 k2 k3 k4 k5 k6; have g6 := HI2.out.h.frozen (k * 7 + 6); have hEA := HI2.out.e.alloc (.cells #[.int .u32 (W.ip : Nat), .int .u16 (oq' : Nat)] 26); have f0 := hEA.frozen 0; have f1 := hEA.frozen 1; have v0 := hEA.cell (i := 0) (by omega); have v1 := hEA.cell (i := 1) (by omega); obtain ⟨x0, x1, x2, x3, x4, x5, x6⟩ := wd_cells (HI2.out.r.alloc (.cells #[.int .u32 (W.ip : Nat), .int .u16 (oq' : Nat)] 26))))
  obtain ⟨q1, q2⟩ := (HI2.out.quiet ((Upto.refl NoS w2).alloc (.cells #[.int .u32 (W.ip : Nat), .int .u16 (oq' : Nat)] 26))).fin (HI2.out.e.alloc _) 0 0
  (try simp only [Exit.inBlock, Exit.then])
  exact bodyPost_ret (res_et Try.results41 _ rfl q1 q2) rfl ⟨rfl, fin_u (HI2.out.u.alloc _) _ _⟩

set_option maxHeartbeats 1000000 in
theorem Take_r_have_c (w : World) (base y : Nat) (ad : Option Addr) (c : Nat) (L : List Rw) (W : Ws) (k : Nat) (h : RIn w base y ad c L) (hW : 1 ≤ W.fr ∧ W.fr ≤ W.tu) (hf : iI L W.p W.ia W.ib = k) (hk : k < L.length) (hc0 : (rwAt L k).oa = W.ip) (hc1 : W.fr ≤ (rwAt L k).ob) (hc : W.tu < (rwAt L k).ob) : Calls Try.prog 41 #[.pointer (some ⟨y, 0, none⟩), wv W] w (Told (.tuple #[ev 0 0, .int .i64 7]) w) := by
  have HV : Hid (vX L (pI W.p W.ia W.ib) = (k : Nat)) := Lib.hid (vX_of hf hk)
  have z0 : (0 : Int) ≤ (k : Int) := by omega
  have z1 : (k : Int) < (L.length : Int) := by omega
  obtain ⟨q, rfl, _⟩ := h.at_ hk
  obtain ⟨r, hr⟩ : ∃ r, rwAt L k = r := ⟨_, rfl⟩
  rw [hr] at hc0 hc1 hc
  have HRK := Lib.hid hr
  obtain ⟨p', oa', oq', ia', ib', lv', hd'⟩ := r
  have hc : W.tu < oq' := hc
  have hc0 : oa' = W.ip := hc0
  subst hc0
  have hc1 : W.fr ≤ oq' := hc1
  have b1 : ((W.ip : Int) != (W.ip : Int)) = false := by simp
  have b2 : decide ((oq' : Int) < W.fr) = false := decide_eq_false (by omega)
  have b3 : decide ((W.tu : Int) < oq') = true := decide_eq_true (by omega)
  clear hr hf hc1 hc
  have hU : Upto NoS w ((w.alloc (.cells (wcells W) 34)).alloc (.cells #[.int .u32 0, .int .u16 0] 26)) := ((Upto.refl _ w).alloc _).alloc _
  have hR := (new_wd w W).alloc (.cells #[.int .u32 0, .int .u16 0] 26)
  have hE := zero26 (w.alloc (.cells (wcells W) 34))
  rw [World.size_alloc] at hE
  have HI : Hid (TkI w ((w.alloc (.cells (wcells W) 34)).alloc (.cells #[.int .u32 0, .int .u16 0] 26)) base y (some ⟨q, 0, none⟩) c L W) := Lib.hid ⟨hU, h.upto hU, hR, hE⟩
  obtain ⟨d0, d1, d2, d3, d4, d5, d6⟩ := wd_cells hR
  have HH := Lib.hid h
  have hsz : w.heap.size + 2 ≤ ((w.alloc (.cells (wcells W) 34)).alloc (.cells #[.int .u32 0, .int .u16 0] 26)).heap.size := by simp
  clear hU hR hE h
  go_enter Try.func41, Try.ntmps41
  go_wp2_with (first | (go_at_call 10; refine (RMay_any _ W true (decide_eq_true hW)).mono ?_; rintro e w1 ⟨rfl, hu1⟩; have HI1 := Lib.hid (HI.out.quiet hu1); have hs1 := Nat.le_trans hsz hu1.size; clear hu1 hsz HI d0 d1 d2 d3 d4 d5 d6; obtain ⟨d0, d1, d2, d3, d4, d5, d6⟩ := wd_cells HI1.out.r) | (go_at_call 26; refine (Of_r _ base y _ c L W.p W.ia W.ib HI1.out.h).mono ?_; rw [HV.out]; rintro e w2 ⟨rfl, hu2⟩; have HI2 := Lib.hid (HI1.out.quiet hu2); have hs2 := Nat.le_trans hs1 hu2.size; clear hu2 hs1 HI1 d0 d1 d2 d3 d4 d5 d6; obtain ⟨d0, d1, d2, d3, d4, d5, d6⟩ := wd_cells HI2.out.r; have hc := HI2.out.h.c0; obtain ⟨q', e9, k0, k1, k2, k3, k4, k5, k6⟩ := HI2.out.h.at_ hk; rw [HRK.out] at k0 k1 k2 k3 k4 k5 k6; cases e9; simp only at k0 k1 k2 k3 k4 k5 k6; have g6 := HI2.out.h.frozen (k * 7 + 6); have hEA := HI2.out.e.alloc (.cells #[.int .u32 (W.ip : Nat), .int .u16 (oq' : Nat)] 26); have f0 := hEA.frozen 0; have f1 := hEA.frozen 1; have v0 := hEA.cell (i := 0) (by omega); have v1 := hEA.cell (i := 1) (by omega); obtain ⟨x0, x1, x2, x3, x4, x5, x6⟩ := wd_cells (HI2.out.r.alloc (.cells #[.int .u32 (W.ip : Nat), .int .u16 (oq' : Nat)] 26))))
  obtain ⟨q1, q2⟩ := (HI2.out.quiet ((Upto.refl NoS w2).alloc (.cells #[.int .u32 (W.ip : Nat), .int .u16 (oq' : Nat)] 26))).fin (HI2.out.e.alloc _) 0 0
  (try simp only [Exit.inBlock, Exit.then])
  exact bodyPost_ret (res_et Try.results41 _ rfl q1 q2) rfl ⟨rfl, fin_u (HI2.out.u.alloc _) _ _⟩

set_option maxHeartbeats 2000000 in
theorem Take_r_held (w : World) (base y : Nat) (ad : Option Addr) (c : Nat) (L : List Rw) (W : Ws) (k : Nat) (h : RIn w base y ad c L) (hW : 1 ≤ W.fr ∧ W.fr ≤ W.tu) (hf : iI L W.p W.ia W.ib = k) (hk : k < L.length) (hc0 : (rwAt L k).oa = W.ip) (hc1 : W.fr ≤ (rwAt L k).ob) (hc : (rwAt L k).ob ≤ W.tu) (hm : (rwAt L k).held < 1000000) :
    Calls Try.prog 41 #[.pointer (some ⟨y, 0, none⟩), wv W] w (RNewP base y ad (L.set k (hold (rwAt L k))) w (.tuple #[ev (rwAt L k).oa (rwAt L k).ob, .int .i64 0])) := by
  have HV : Hid (vX L (pI W.p W.ia W.ib) = (k : Nat)) := Lib.hid (vX_of hf hk)
  have z0 : (0 : Int) ≤ (k : Int) := by omega
  have z1 : (k : Int) < (L.length : Int) := by omega
  obtain ⟨q, rfl, _⟩ := h.at_ hk
  obtain ⟨r, hr⟩ : ∃ r, rwAt L k = r := ⟨_, rfl⟩
  have hr0 := hr
  rw [hr] at hc0 hc1 hc hm
  have HRK := Lib.hid hr
  obtain ⟨p', oa', oq', ia', ib', lv', hd'⟩ := r
  have hc0 : oa' = W.ip := hc0
  subst hc0
  have hc1 : W.fr ≤ oq' := hc1
  have hc : oq' ≤ W.tu := hc
  have hm : hd' < 1000000 := hm
  have b1 : ((W.ip : Int) != (W.ip : Int)) = false := by simp
  have b2 : decide ((oq' : Int) < W.fr) = false := decide_eq_false (by omega)
  have b3 : decide ((W.tu : Int) < oq') = false := decide_eq_false (by omega)
  have hwr : IntKind.i64.wrap ((hd' : Int) + 1) = (hd' : Int) + 1 := IntWalk.i64_in _ (by omega)
  have he1 : (rwAt L k).oa = W.ip := by rw [hr]
  have he2 : (rwAt L k).ob = oq' := by rw [hr]
  rw [he1, he2]
  clear hr hr0 hf hc hc1 he1 he2
  have hU : Upto NoS w ((w.alloc (.cells (wcells W) 34)).alloc (.cells #[.int .u32 0, .int .u16 0] 26)) := ((Upto.refl _ w).alloc _).alloc _
  have hR := (new_wd w W).alloc (.cells #[.int .u32 0, .int .u16 0] 26)
  have hE := zero26 (w.alloc (.cells (wcells W) 34))
  rw [World.size_alloc] at hE
  have HI : Hid (TkI w ((w.alloc (.cells (wcells W) 34)).alloc (.cells #[.int .u32 0, .int .u16 0] 26)) base y (some ⟨q, 0, none⟩) c L W) := Lib.hid ⟨hU, h.upto hU, hR, hE⟩
  obtain ⟨d0, d1, d2, d3, d4, d5, d6⟩ := wd_cells hR
  have HH := Lib.hid h
  have hsz : w.heap.size + 2 ≤ ((w.alloc (.cells (wcells W) 34)).alloc (.cells #[.int .u32 0, .int .u16 0] 26)).heap.size := by simp
  clear hU hR hE h
  have hql := (HH.out.slt q (.inr rfl)).2
  go_enter Try.func41, Try.ntmps41
  go_upto_region 8 with (first | (go_at_call 10; refine (RMay_any _ W true (decide_eq_true hW)).mono ?_; rintro e w1 ⟨rfl, hu1⟩; have HI1 := Lib.hid (HI.out.quiet hu1); have hs1 := Nat.le_trans hsz hu1.size; clear hu1 hsz HI d0 d1 d2 d3 d4 d5 d6; obtain ⟨d0, d1, d2, d3, d4, d5, d6⟩ := wd_cells HI1.out.r) | (go_at_call 26; refine (Of_r _ base y _ c L W.p W.ia W.ib HI1.out.h).mono ?_; rw [HV.out]; rintro e w2 ⟨rfl, hu2⟩; have HI2 := Lib.hid (HI1.out.quiet hu2); have hs2 := Nat.le_trans hs1 hu2.size; clear hu2 hs1 HI1 d0 d1 d2 d3 d4 d5 d6; obtain ⟨d0, d1, d2, d3, d4, d5, d6⟩ := wd_cells HI2.out.r; have hc := HI2.out.h.c0; obtain ⟨q', e9, k0, k1, k2, k3, k4, k5, k6⟩ := HI2.out.h.at_ hk; rw [HRK.out] at k0 k1 k2 k3 k4 k5 k6; cases e9; simp only at k0 k1 k2 k3 k4 k5 k6; have g6 := HI2.out.h.frozen (k * 7 + 6); have hEA := HI2.out.e.alloc (.cells #[.int .u32 (W.ip : Nat), .int .u16 (oq' : Nat)] 26); have f0 := hEA.frozen 0; have f1 := hEA.frozen 1; have v0 := hEA.cell (i := 0) (by omega); have v1 := hEA.cell (i := 1) (by omega); obtain ⟨x0, x1, x2, x3, x4, x5, x6⟩ := wd_cells (HI2.out.r.alloc (.cells #[.int .u32 (W.ip : Nat), .int .u16 (oq' : Nat)] 26))))
  have HI3 := Lib.hid (HI2.out.quiet ((Upto.refl NoS w2).alloc (.cells #[.int .u32 (W.ip : Nat), .int .u16 (oq' : Nat)] 26)))
  have hs3 : w.heap.size + 2 ≤ (w2.alloc (.cells #[.int .u32 (W.ip : Nat), .int .u16 (oq' : Nat)] 26)).heap.size := by have := World.size_alloc w2 (.cells #[.int .u32 (W.ip : Nat), .int .u16 (oq' : Nat)] 26); omega
  have m0 := new_1 w2 #[.int .u32 (W.ip : Nat), .int .u16 (oq' : Nat)] 26 0 (.int .u32 (W.ip : Nat)) rfl
  have m1 := new_1 w2 #[.int .u32 (W.ip : Nat), .int .u16 (oq' : Nat)] 26 1 (.int .u16 (oq' : Nat)) rfl
  clear d0 d1 d2 d3 d4 d5 d6 hc k0 k1 k2 k3 k4 k5 k6 g6 f0 f1 v0 v1 x0 x1 x2 x3 x4 x5 x6 hEA HI2
  have hw2q : w.heap.size + 2 ≤ w2.heap.size := hs2
  generalize w2.alloc (.cells #[.int .u32 (W.ip : Nat), .int .u16 (oq' : Nat)] 26) = W3 at HI3 hs3 m0 m1 ⊢
  have hc := HI3.out.h.c0
  obtain ⟨q', e9, k0, k1, k2, k3, k4, k5, k6⟩ := HI3.out.h.at_ hk
  rw [HRK.out] at k0 k1 k2 k3 k4 k5 k6
  cases e9
  simp only at k0 k1 k2 k3 k4 k5 k6
  have g6 := HI3.out.h.frozen (k * 7 + 6)
  have hUq : Upto (fun i => i = q) W3 (W3.setCell ⟨q, k * 7 + 6, none⟩ (.int .i64 ((hd' : Int) + 1))) := (Upto.refl (fun i => i = q) W3).setB rfl _
  have hE4 := hUq.row HI3.out.e (fun e => by have e : w.heap.size + 1 = q := e; omega)
  have f0 := hE4.frozen 0
  have f1 := hE4.frozen 1
  have v0 := hE4.cell (i := 0) (by omega)
  have v1 := hE4.cell (i := 1) (by omega)
  have m0' := hUq.keep m0 (fun e => by have e : w2.heap.size = q := e; omega)
  have m1' := hUq.keep m1 (fun e => by have e : w2.heap.size = q := e; omega)
  have HL : Hid (Laid base y (some ⟨q, 0, none⟩) (L.set k (hold (rwAt L k))) W3 (W3.setCell ⟨q, k * 7 + 6, none⟩ (.int .i64 ((hd' : Int) + 1)))) := Lib.hid ⟨_, _, HI3.out.h.holds hk (by rw [HRK.out]; exact hm) (by rw [HRK.out]), hUq.mono (fun i _ e => .inr (by rw [show i = q from e]; rfl)), fun i hi => .inl hi⟩
  have HFIN := Lib.hid (RNewP.fin HH.out HI3.out.u hs3 HL.out (.int .u32 (W.ip : Nat)) (.int .u16 (oq' : Nat)))
  have HQ := Lib.hid (HI3.out.fin hE4 W.ip oq')
  clear hUq hE4 HL HI3
  go_wp2_with fail
  (try simp only [Exit.inBlock, Exit.then])
  exact bodyPost_ret (res_et Try.results41 _ rfl HQ.out.1 HQ.out.2) rfl ⟨rfl, HFIN.out⟩

set_option maxRecDepth 100000 in
set_option maxHeartbeats 4000000 in
theorem Take_r_new (w : World) (base y : Nat) (ad : Option Addr) (c : Nat) (L : List Rw) (W : Ws) (h : RIn w base y ad c L) (hWk : W.Ok) (hW : 1 ≤ W.fr ∧ W.fr ≤ W.tu) (hf : ¬ iI L W.p W.ia W.ib < L.length) (hm : L.length < 1000) :
    Calls Try.prog 41 #[.pointer (some ⟨y, 0, none⟩), wv W] w (match pickR L W with
      | some q => RNewP base y ad (insR L (newR W.p W.ip q W.ia W.ib)) w (.tuple #[ev W.ip q, .int .i64 0])
      | none => Told (.tuple #[ev 0 0, .int .i64 8]) w) := by
  have HV : Hid (vX L (pI W.p W.ia W.ib) = -1) := Lib.hid (vX_no hf)
  have hin := tried_in W hW.2
  have HTL : Hid (W.tried.length ≤ 200000) := Lib.hid (by have := done_le W 2; have := n_le W hWk; unfold Ws.tried; omega)
  obtain ⟨P, hP⟩ : ∃ P, pickR L W = P := ⟨_, rfl⟩
  rw [hP]
  have HP := Lib.hid hP
  have HWK := Lib.hid hWk
  clear hf hP hWk
  have hU : Upto NoS w ((w.alloc (.cells (wcells W) 34)).alloc (.cells #[.int .u32 0, .int .u16 0] 26)) := ((Upto.refl _ w).alloc _).alloc _
  have hR := (new_wd w W).alloc (.cells #[.int .u32 0, .int .u16 0] 26)
  have hE := zero26 (w.alloc (.cells (wcells W) 34))
  rw [World.size_alloc] at hE
  have HI : Hid (TkI w ((w.alloc (.cells (wcells W) 34)).alloc (.cells #[.int .u32 0, .int .u16 0] 26)) base y ad c L W) := Lib.hid ⟨hU, h.upto hU, hR, hE⟩
  obtain ⟨d0, d1, d2, d3, d4, d5, d6⟩ := wd_cells hR
  have HH := Lib.hid h
  have hsz : w.heap.size + 2 ≤ ((w.alloc (.cells (wcells W) 34)).alloc (.cells #[.int .u32 0, .int .u16 0] 26)).heap.size := by simp
  clear hU hR hE h
  go_enter Try.func41, Try.ntmps41
  go_wp2_with (first | (go_at_call 10; refine (RMay_any _ W true (decide_eq_true hW)).mono ?_; rintro e w1 ⟨rfl, hu1⟩; have HI1 := Lib.hid (HI.out.quiet hu1); have hs1 := Nat.le_trans hsz hu1.size; clear hu1 hsz HI d0 d1 d2 d3 d4 d5 d6; obtain ⟨d0, d1, d2, d3, d4, d5, d6⟩ := wd_cells HI1.out.r) | (go_at_call 26; refine (Of_r _ base y _ c L W.p W.ia W.ib HI1.out.h).mono ?_; rw [HV.out]; rintro e w2 ⟨rfl, hu2⟩; have HI2 := Lib.hid (HI1.out.quiet hu2); have hs2 := Nat.le_trans hs1 hu2.size; clear hu2 hs1 HI1 d0 d1 d2 d3 d4 d5 d6; obtain ⟨d0, d1, d2, d3, d4, d5, d6⟩ := wd_cells HI2.out.r) | (go_at_call 12; refine (Tried_any _ W HWK.out hW.1 hW.2).mono ?_; rintro e w3 ⟨tv, rfl, ho3, hu3⟩; obtain ⟨ta, tc, rfl, _⟩ := own_slice ho3; have HI3 := Lib.hid (HI2.out.quiet hu3); have hs3 := Nat.le_trans hs2 hu3.size; have HO3 := Lib.hid ho3; clear hu3 ho3 HI2 hs2))
  obtain ⟨n, hn⟩ : ∃ n, W.tried.length = n := ⟨_, rfl⟩
  rw [hn] at HTL
  have hnl := HTL.out
  have HN := Lib.hid hn
  rw [hn] at HO3
  rw [hn]
  clear hn d0 d1 d2 d3 d4 d5 d6
  go_loopw [9] (fun v wr => ∃ i : Nat, i ≤ n ∧ v = .int .i64 i ∧ Hid (Upto NoS w3 wr) ∧ Hid (∀ j, j < i → freeB L W.p W.ip (W.tried.getD j 0) = false)) (fun v _ => n - (intOf v).toNat)
  case atStart => exact ⟨0, by omega, rfl, Lib.hid (Upto.refl _ _), Lib.hid (fun j hj => by omega)⟩
  case round =>
    obtain ⟨i, hi, rfl, HU, HF⟩ := hrel
    have hI4 := HI3.out.quiet HU.out
    have hs4 := Nat.le_trans hs3 HU.out.size
    by_cases hlt : i < n
    · have ho := HU.out.own HO3.out (fun _ _ h => h)
      obtain ⟨tq, cp, e8, _, _⟩ := own_form ho (by omega)
      simp only [Value.slice.injEq, true_and] at e8
      obtain ⟨rfl, rfl⟩ := e8
      have t0 := ucl_cell ho i (by rw [HN.out]; exact hlt)
      have hmem : W.tried.getD i 0 ∈ W.tried := by
        rw [List.getD_eq_getElem?_getD, List.getElem?_eq_getElem (by rw [HN.out]; exact hlt)]
        exact List.getElem_mem _
      have hq16 := (hin _ hmem).2
      obtain ⟨q, hq⟩ : ∃ q, W.tried.getD i 0 = q := ⟨_, rfl⟩
      rw [hq] at t0 hq16
      have HQ := Lib.hid hq
      have x0 : (0 : Int) ≤ (i : Int) := by omega
      have x1 : (i : Int) < (n : Int) := by omega
      obtain ⟨d0, d1, d2, d3, d4, d5, d6⟩ := wd_cells hI4.r
      have t0' := keep_alloc t0 (.cells #[.int .u32 0, .int .u16 0] 26)
      have d3' := keep_alloc d3 (.cells #[.int .u32 0, .int .u16 0] 26)
      have hUA : Upto NoS wr (wr.alloc (.cells #[.int .u32 (W.ip : Nat), .int .u16 (q : Nat)] 26)).drew := ((Upto.refl NoS wr).alloc _).drew
      have m0 := new_1 wr #[.int .u32 (W.ip : Nat), .int .u16 (q : Nat)] 26 0 (.int .u32 (W.ip : Nat)) rfl
      have m1 := new_1 wr #[.int .u32 (W.ip : Nat), .int .u16 (q : Nat)] 26 1 (.int .u16 (q : Nat)) rfl
      have HI5 := Lib.hid (hI4.quiet hUA)
      have HU5 := Lib.hid (HU.out.trans hUA)
      have hs5 : w.heap.size + 2 ≤ wr.heap.size := hs4
      have hw16 : W.tu < 65536 := HWK.out.tu
      clear hq hmem ho hI4 hs4 hUA
      go_upto_region 14 with (fail)
      go_cut [10] (fun u wd => u = .pointer (some ⟨wr.heap.size, 0, none⟩) ∧ wd = (wr.alloc (.cells #[.int .u32 (W.ip : Nat), .int .u16 (q : Nat)] 26)).drew)
      case first =>
        go_region
        all_goals
          go_wp2_with fail
          go_meet
          case rel => exact ⟨rfl, rfl⟩
      case rest =>
        obtain ⟨rfl, rfl⟩ := hcut
        skip
        clear t0 t0' d0 d1 d2 d3 d3' d4 d5 d6
        have m0 : (wr.alloc (.cells #[.int .u32 (W.ip : Nat), .int .u16 (q : Nat)] 26)).drew.cell? ⟨wr.heap.size, 0, none⟩ = _ := m0
        have m1 : (wr.alloc (.cells #[.int .u32 (W.ip : Nat), .int .u16 (q : Nat)] 26)).drew.cell? ⟨wr.heap.size, 1, none⟩ = _ := m1
        have hs6 : wr.heap.size < (wr.alloc (.cells #[.int .u32 (W.ip : Nat), .int .u16 (q : Nat)] 26)).drew.heap.size := by show wr.heap.size < (wr.alloc _).heap.size; simp
        generalize (wr.alloc (.cells #[.int .u32 (W.ip : Nat), .int .u16 (q : Nat)] 26)).drew = W5 at HI5 HU5 m0 m1 hs6 ⊢
        obtain ⟨d0, d1, d2, d3, d4, d5, d6⟩ := wd_cells HI5.out.r
        by_cases hk : iO L W.p W.ip q < L.length
        · have HO : Hid (vX L (pO W.p W.ip q) = (iO L W.p W.ip q : Nat)) := Lib.hid (vX_of rfl hk)
          have HFR : Hid (freeB L W.p W.ip q = false) := Lib.hid (by rw [free_iO]; simpa using hk)
          generalize iO L W.p W.ip q = k at HO
          clear hk
          go_wp2_with (go_at_call 27; refine (Owner_r _ base y _ c L W.p W.ip q HI5.out.h).mono ?_; rw [HO.out]; rintro e w6 ⟨rfl, hu6⟩)
          go_roundw
          case rel =>
            have HF2 : Hid (∀ j, j < i + 1 → freeB L W.p W.ip (W.tried.getD j 0) = false) := Lib.hid (fun j hj => by
              by_cases e : j = i
              · rw [e, HQ.out]; exact HFR.out
              · exact HF.out j (by omega))
            first
              | exact ⟨i + 1, by omega, by go_num, Lib.hid (HU5.out.trans hu6), HF2⟩
              | ((repeat apply Exists.intro); exact ⟨⟨i + 1, by omega, by go_num, Lib.hid (HU5.out.trans hu6), HF2⟩, rfl⟩)
          case measure => simp [intOf]; omega
        · have HO : Hid (vX L (pO W.p W.ip q) = -1) := Lib.hid (vX_no hk)
          have hPQ : P = some q := by
            rw [← HP.out]
            unfold pickR
            rw [List.find?_eq_some_iff_getElem]
            refine ⟨by rw [free_iO]; simpa using hk, i, by rw [HN.out]; exact hlt, ?_, fun j hj => ?_⟩
            · have := HQ.out
              rw [List.getD_eq_getElem?_getD, List.getElem?_eq_getElem (by rw [HN.out]; exact hlt)] at this
              exact this
            · have := HF.out j hj
              rw [List.getD_eq_getElem?_getD, List.getElem?_eq_getElem (by rw [HN.out]; omega)] at this
              simpa using this
          subst hPQ
          have hnok : (newR W.p W.ip q W.ia W.ib).Ok := ⟨HWK.out.p, HWK.out.ip, by show q < 65536; omega, HWK.out.ia, HWK.out.ib, by simp [newR], by simp [newR]⟩
          clear hk
          go_wp2_with (first
            | (go_at_call 27; refine (Owner_r _ base y _ c L W.p W.ip q HI5.out.h).mono ?_; rw [HO.out]; rintro e w6 ⟨rfl, hu6⟩; have HI6 := Lib.hid (HI5.out.quiet hu6); have y0 := hu6.keep m0 id; have y1 := hu6.keep m1 id; have hs7 := Nat.lt_of_lt_of_le hs6 hu6.size; clear d0 d1 d2 d3 d4 d5 d6 m0 m1 hu6; obtain ⟨d0, d1, d2, d3, d4, d5, d6⟩ := wd_cells HI6.out.r)
            | (go_at_call 48; go_loud (refine (put_r _ base y _ c L (newR W.p W.ip q W.ia W.ib) HI6.out.h hnok hm).mono ?_; rintro e w8 ⟨rfl, hp⟩; have hRS : ∀ b, RfS y ad b → b < w.heap.size := fun b hb => (HH.out.slt b hb).2; have hu8 : Upto (RfS y ad) w6 w8 := (by obtain ⟨_, _, _, h8, _⟩ := hp; exact h8); have y0' := hu8.keep y0 (fun e => by have : wr.heap.size < w.heap.size := hRS _ e; omega); have y1' := hu8.keep y1 (fun e => by have : wr.heap.size < w.heap.size := hRS _ e; omega); have hE8 := hu8.row HI6.out.e (fun e => by have := hRS _ e; omega); have f0 := hE8.frozen 0; have f1 := hE8.frozen 1; have v0 := hE8.cell (i := 0) (by omega); have v1 := hE8.cell (i := 1) (by omega))))
          have HFIN := RNewP.fin HH.out HI6.out.u (by omega) hp (.int .u32 (W.ip : Nat)) (.int .u16 (q : Nat))
          have HQ2 := HI6.out.fin hE8 W.ip q
          (try simp only [Exit.inBlock, Exit.then])
          exact bodyPost_ret (res_et Try.results41 _ rfl HQ2.1 HQ2.2) rfl ⟨rfl, HFIN⟩
    · obtain rfl : i = n := by omega
      have hPN : P = none := by
        rw [← HP.out]
        unfold pickR
        refine List.find?_eq_none.2 fun q hq => ?_
        obtain ⟨j, hj, rfl⟩ := List.getElem_of_mem hq
        have := HF.out j (by rw [← HN.out]; exact hj)
        rw [List.getD_eq_getElem?_getD, List.getElem?_eq_getElem hj] at this
        simpa using this
      subst hPN
      have f0 := hI4.e.frozen 0
      have f1 := hI4.e.frozen 1
      have v0 := hI4.e.cell (i := 0) (by omega)
      have v1 := hI4.e.cell (i := 1) (by omega)
      obtain ⟨q1, q2⟩ := hI4.fin hI4.e 0 0
      have HQ2 := Lib.hid (And.intro q1 q2)
      have HU9 := Lib.hid (fin_u hI4.u (.int .u32 0) (.int .u16 0))
      clear q1 q2 hI4 hs4
      go_wp2_with fail
      (try simp only [Exit.inBlock, Exit.then])
      exact bodyPost_ret (res_et Try.results41 _ rfl HQ2.out.1 HQ2.out.2) rfl ⟨rfl, HU9.out⟩
theorem Take_r (w : World) (base y : Nat) (ad : Option Addr) (c : Nat) (L : List Rw) (W : Ws) (h : RIn w base y ad c L) (hWk : W.Ok) (hm : L.length < 1000) (hh : ∀ r ∈ L, r.held < 1000000) :
    Calls Try.prog 41 #[.pointer (some ⟨y, 0, none⟩), wv W] w (RNewP base y ad (tkL L W).2.2.2 w (.tuple #[ev (tkL L W).1 (tkL L W).2.1, .int .i64 (tkL L W).2.2.1])) := by
  unfold tkL
  by_cases hW : 1 ≤ W.fr ∧ W.fr ≤ W.tu
  · rw [if_pos hW]
    by_cases hk : iI L W.p W.ia W.ib < L.length
    · rw [if_pos hk]
      by_cases hc : (rwAt L (iI L W.p W.ia W.ib)).oa = W.ip ∧ W.fr ≤ (rwAt L (iI L W.p W.ia W.ib)).ob ∧ (rwAt L (iI L W.p W.ia W.ib)).ob ≤ W.tu
      · rw [if_pos hc]
        exact Take_r_held w base y ad c L W _ h hW rfl hk hc.1 hc.2.1 hc.2.2 (hh _ (rwAt_mem L hk))
      · rw [if_neg hc]
        by_cases ha : (rwAt L (iI L W.p W.ia W.ib)).oa = W.ip
        · by_cases hb : W.fr ≤ (rwAt L (iI L W.p W.ia W.ib)).ob
          · exact (Take_r_have_c w base y ad c L W _ h hW rfl hk ha hb (by have : ¬ (rwAt L (iI L W.p W.ia W.ib)).ob ≤ W.tu := fun e => hc ⟨ha, hb, e⟩; omega)).mono fun _ _ ht => RNewP.of_told h ht
          · exact (Take_r_have_b w base y ad c L W _ h hW rfl hk ha (by omega)).mono fun _ _ ht => RNewP.of_told h ht
        · exact (Take_r_have_a w base y ad c L W _ h hW rfl hk ha).mono fun _ _ ht => RNewP.of_told h ht
    · rw [if_neg hk]
      have := Take_r_new w base y ad c L W h hWk hW hk hm
      cases hp : pickR L W with
      | some q => rw [hp] at this; exact this
      | none => rw [hp] at this; exact this.mono fun _ _ ht => RNewP.of_told h ht
  · rw [if_neg hW]
    exact (Take_r_arg w base y ad c L W h hW).mono fun _ _ ht => RNewP.of_told h ht
end Go.Proofs.Ytfiblchdfacdiaa
