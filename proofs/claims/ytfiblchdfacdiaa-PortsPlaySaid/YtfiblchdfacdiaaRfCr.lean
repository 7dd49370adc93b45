/- The document's change, walked: rel. -/
import Derived.Test.YtfiblchdfacdiaaRfC
namespace Go.Proofs.Ytfiblchdfacdiaa
open Go Go.RowKit Go.Deep Go.Maps

theorem rel_r_no (w : World) (base y : Nat) (ad : Option Addr) (c : Nat) (L : List Rw) (p a b : Nat) (h : RIn w base y ad c L) (hf : ¬ L.findIdx (pO p a b) < L.length) :
    Calls Try.prog 49 #[.pointer (some ⟨y, 0, none⟩), .int .u8 p, ev a b, .int .i64 (0), .int .i64 (-1)] w (Told (.int .i64 6) w) := by
  have hU : Upto NoS w (w.alloc (.cells #[.int .u32 (a : Nat), .int .u16 (b : Nat)] 26)) := (Upto.refl _ w).alloc _
  have h1 := h.upto hU
  have hl := h.many
  have n0 := new_1 w #[.int .u32 (a : Nat), .int .u16 (b : Nat)] 26 0 (.int .u32 (a : Nat)) rfl
  have n1 := new_1 w #[.int .u32 (a : Nat), .int .u16 (b : Nat)] 26 1 (.int .u16 (b : Nat)) rfl
  have HV := Lib.hid (vX_no hf)
  clear h hf
  go_enter Try.func49, Try.ntmps49
  go_wp2_with (go_at_call 27; refine (Owner_r _ base y ad c L p a b h1).mono ?_; rw [HV.out]; rintro e w1 ⟨rfl, hu⟩)
  go_ret
  exact ⟨rfl, hU.trans hu⟩
set_option maxHeartbeats 1000000 in
theorem rel_r_zero (w : World) (base y : Nat) (ad : Option Addr) (c : Nat) (L : List Rw) (p a b k : Nat) (h : RIn w base y ad c L) (hf : L.findIdx (pO p a b) = k) (hk : k < L.length) (h0 : (rwAt L k).live = 0) :
    Calls Try.prog 49 #[.pointer (some ⟨y, 0, none⟩), .int .u8 p, ev a b, .int .i64 (0), .int .i64 (-1)] w (Told (.int .i64 6) w) := by
  have hU : Upto NoS w (w.alloc (.cells #[.int .u32 (a : Nat), .int .u16 (b : Nat)] 26)) := (Upto.refl _ w).alloc _
  have h1 := h.upto hU
  have hl := h.many
  have n0 := new_1 w #[.int .u32 (a : Nat), .int .u16 (b : Nat)] 26 0 (.int .u32 (a : Nat)) rfl
  have n1 := new_1 w #[.int .u32 (a : Nat), .int .u16 (b : Nat)] 26 1 (.int .u16 (b : Nat)) rfl
  have HV := Lib.hid (vX_of hf hk)
  have z0 : (0 : Int) ≤ (k : Int) := by omega
  have z1 : (k : Int) < (L.length : Int) := by omega
  have z2 : decide ((k : Int) < 0) = false := by simp
  have hok := h.ok _ (rwAt_mem L hk)
  obtain ⟨r, hr⟩ : ∃ r, rwAt L k = r := ⟨_, rfl⟩
  rw [hr] at hok h0
  have HRK := Lib.hid hr
  obtain ⟨p', oa', oq', ia', ib', lv', hd'⟩ := r
  have g1 : lv' ≤ 1000000 := hok.live
  have g2 : hd' ≤ 1000000 := hok.held
  have HOK := Lib.hid hok
  obtain ⟨q, rfl, _⟩ := h.at_ hk
  clear hr hok hf
  have h0 : lv' = 0 := h0
  subst h0
  go_enter Try.func49, Try.ntmps49
  go_wp2_with (go_at_call 27; refine (Owner_r _ base y _ c L p a b h1).mono ?_; rw [HV.out]; rintro e w1 ⟨rfl, hu⟩; replace h1 := h1.upto hu; have hc := h1.c0; obtain ⟨q', e9, d0, d1, d2, d3, d4, d5, d6⟩ := h1.at_ hk; rw [HRK.out] at d0 d1 d2 d3 d4 d5 d6; cases e9; simp only at d0 d1 d2 d3 d4 d5 d6; have f5 := h1.frozen (k * 7 + 5); have f6 := h1.frozen (k * 7 + 6))
  go_ret
  exact ⟨rfl, hU.trans hu⟩
set_option maxRecDepth 100000 in
set_option maxHeartbeats 2000000 in
theorem rel_r_keep (w : World) (base y : Nat) (ad : Option Addr) (c : Nat) (L : List Rw) (p a b k : Nat) (h : RIn w base y ad c L) (hf : L.findIdx (pO p a b) = k) (hk : k < L.length) (h0 : 0 < (rwAt L k).live) (hm : 0 < (rels (rwAt L k)).live + (rels (rwAt L k)).held) :
    Calls Try.prog 49 #[.pointer (some ⟨y, 0, none⟩), .int .u8 p, ev a b, .int .i64 (0), .int .i64 (-1)] w (RNewP base y ad (L.set k (rels (rwAt L k))) w (.int .i64 0)) := by
  have hU : Upto NoS w (w.alloc (.cells #[.int .u32 (a : Nat), .int .u16 (b : Nat)] 26)) := (Upto.refl _ w).alloc _
  have h1 := h.upto hU
  have hl := h.many
  have n0 := new_1 w #[.int .u32 (a : Nat), .int .u16 (b : Nat)] 26 0 (.int .u32 (a : Nat)) rfl
  have n1 := new_1 w #[.int .u32 (a : Nat), .int .u16 (b : Nat)] 26 1 (.int .u16 (b : Nat)) rfl
  have HV := Lib.hid (vX_of hf hk)
  have z0 : (0 : Int) ≤ (k : Int) := by omega
  have z1 : (k : Int) < (L.length : Int) := by omega
  have z2 : decide ((k : Int) < 0) = false := by simp
  have hok := h.ok _ (rwAt_mem L hk)
  obtain ⟨r, hr⟩ : ∃ r, rwAt L k = r := ⟨_, rfl⟩
  rw [hr] at hok h0 hm ⊢
  have HRK := Lib.hid hr
  obtain ⟨p', oa', oq', ia', ib', lv', hd'⟩ := r
  have g1 : lv' ≤ 1000000 := hok.live
  have g2 : hd' ≤ 1000000 := hok.held
  have HOK := Lib.hid hok
  obtain ⟨q, rfl, _⟩ := h.at_ hk
  clear hr hok hf
  have h0 : 0 < lv' := h0
  have y1 : ((lv' : Int) == 0) = false := by simp; omega
  have hw1 : IntKind.i64.wrap (hd' : Int) = (hd' : Int) := IntWalk.i64_in _ (by omega)
  have hw2 : IntKind.i64.wrap ((lv' : Int) + -1) = (lv' : Int) - 1 := by rw [IntWalk.i64_in _ (by omega)]; omega
  have hw2b : IntKind.i64.wrap ((lv' : Int) - 1) = (lv' : Int) - 1 := IntWalk.i64_in _ (by omega)
  have HH := Lib.hid h
  clear h
  go_enter Try.func49, Try.ntmps49
  go_upto_region 4 with (go_at_call 27; refine (Owner_r _ base y _ c L p a b h1).mono ?_; rw [HV.out]; rintro e w1 ⟨rfl, hu⟩; replace h1 := h1.upto hu; have hc := h1.c0; obtain ⟨q', e9, d0, d1, d2, d3, d4, d5, d6⟩ := h1.at_ hk; rw [HRK.out] at d0 d1 d2 d3 d4 d5 d6; cases e9; simp only at d0 d1 d2 d3 d4 d5 d6; have f5 := h1.frozen (k * 7 + 5); have f6 := h1.frozen (k * 7 + 6))
  have hU1 := hU.trans hu
  have H5 := (h1.upd hk (r := rels ⟨p', oa', oq', ia', ib', lv', hd'⟩) ⟨HOK.out.p, HOK.out.oa, HOK.out.ob, HOK.out.ia, HOK.out.ib, by show lv' - 1 ≤ _; omega, by show hd' ≤ _; omega⟩ (by rw [HRK.out]; exact ⟨rfl, rfl, rfl, rfl, rfl⟩) (u := (hd' : Int)) (v := (lv' : Int) - 1) (by show _ = ((hd' : Nat) : Int); omega) (by show _ = ((lv' - 1 : Nat) : Int); omega)).drew
  have hU5 := ((((Upto.refl (fun i => i = q) w1).setB (b := q) (o := k * 7 + 6) rfl (.int .i64 ((hd' : Int)))).setB (b := q) (o := k * 7 + 5) rfl (.int .i64 ((lv' : Int) - 1)))).drew
  have HU1 := Lib.hid hU1
  clear hu hU hU1 n0 n1
  go_region
  clear d0 d1 d2 d3 d4 d5 d6 f5 f6 hc h1
  generalize ((w1.setCell ⟨q, k * 7 + 6, none⟩ (.int .i64 ((hd' : Int)))).setCell ⟨q, k * 7 + 5, none⟩ (.int .i64 ((lv' : Int) - 1))).drew = W5 at H5 hU5 ⊢
  have HU5 := Lib.hid ((HU1.out.mono (T := fun i => i = q) (fun _ _ e => e.elim)).trans hU5)
  clear hU5 HU1
  have hk5 : k < (L.set k (rels ⟨p', oa', oq', ia', ib', lv', hd'⟩)).length := by rw [List.length_set]; exact hk
  obtain ⟨q', e9, d0, d1, d2, d3, d4, d5, d6⟩ := H5.at_ hk5
  rw [rwAt_set L k _ hk] at d0 d1 d2 d3 d4 d5 d6
  cases e9
  replace d5 : W5.cell? ⟨q, k * 7 + 5, none⟩ = some (.int .i64 ((lv' - 1 : Nat) : Int)) := d5
  replace d6 : W5.cell? ⟨q, k * 7 + 6, none⟩ = some (.int .i64 ((hd' : Nat) : Int)) := d6
  have hc := H5.c0
  rw [List.length_set] at hc
  obtain ⟨nh, hnh⟩ : ∃ n : Nat, hd' = n := ⟨_, rfl⟩
  obtain ⟨nl, hnl⟩ : ∃ n : Nat, lv' - 1 = n := ⟨_, rfl⟩
  rw [hnh] at d6
  rw [hnl] at d5
  have H5 := Lib.hid H5
  have hm : 0 < lv' - 1 + (hd') := hm
  by_cases hz : nh = 0
  · subst hz
    have y2 : ((nl : Int) == 0) = false := by simp; omega
    go_wp2_with fail
    go_ret
    exact ⟨rfl, _, _, H5.out, HU5.out.mono (fun i _ e => .inr (by rw [show i = q from e]; rfl)), fun i hi => .inl hi⟩
  · have y3 : ((nh : Int) == 0) = false := by simp; omega
    go_wp2_with fail
    go_ret
    exact ⟨rfl, _, _, H5.out, HU5.out.mono (fun i _ e => .inr (by rw [show i = q from e]; rfl)), fun i hi => .inl hi⟩
set_option maxRecDepth 100000 in
set_option maxHeartbeats 4000000 in
theorem rel_r_go (w : World) (base y : Nat) (ad : Option Addr) (c : Nat) (L : List Rw) (p a b k : Nat) (h : RIn w base y ad c L) (hf : L.findIdx (pO p a b) = k) (hk : k < L.length) (h0 : 0 < (rwAt L k).live) (hm1 : (rels (rwAt L k)).live = 0) (hm2 : (rels (rwAt L k)).held = 0) :
    Calls Try.prog 49 #[.pointer (some ⟨y, 0, none⟩), .int .u8 p, ev a b, .int .i64 (0), .int .i64 (-1)] w (RNewP base y ad (L.take k ++ L.drop (k + 1)) w (.int .i64 0)) := by
  have hU : Upto NoS w (w.alloc (.cells #[.int .u32 (a : Nat), .int .u16 (b : Nat)] 26)) := (Upto.refl _ w).alloc _
  have h1 := h.upto hU
  have hl := h.many
  have n0 := new_1 w #[.int .u32 (a : Nat), .int .u16 (b : Nat)] 26 0 (.int .u32 (a : Nat)) rfl
  have n1 := new_1 w #[.int .u32 (a : Nat), .int .u16 (b : Nat)] 26 1 (.int .u16 (b : Nat)) rfl
  have HV := Lib.hid (vX_of hf hk)
  have z0 : (0 : Int) ≤ (k : Int) := by omega
  have z1 : (k : Int) < (L.length : Int) := by omega
  have z2 : decide ((k : Int) < 0) = false := by simp
  have hok := h.ok _ (rwAt_mem L hk)
  obtain ⟨r, hr⟩ : ∃ r, rwAt L k = r := ⟨_, rfl⟩
  rw [hr] at hok h0 hm1 hm2
  have HRK := Lib.hid hr
  obtain ⟨p', oa', oq', ia', ib', lv', hd'⟩ := r
  have g1 : lv' ≤ 1000000 := hok.live
  have g2 : hd' ≤ 1000000 := hok.held
  have HOK := Lib.hid hok
  obtain ⟨q, rfl, _⟩ := h.at_ hk
  clear hr hok hf
  have h0 : 0 < lv' := h0
  have y1 : ((lv' : Int) == 0) = false := by simp; omega
  have hw1 : IntKind.i64.wrap (hd' : Int) = (hd' : Int) := IntWalk.i64_in _ (by omega)
  have hw2 : IntKind.i64.wrap ((lv' : Int) + -1) = (lv' : Int) - 1 := by rw [IntWalk.i64_in _ (by omega)]; omega
  have hw2b : IntKind.i64.wrap ((lv' : Int) - 1) = (lv' : Int) - 1 := IntWalk.i64_in _ (by omega)
  have HH := Lib.hid h
  clear h
  go_enter Try.func49, Try.ntmps49
  go_upto_region 4 with (go_at_call 27; refine (Owner_r _ base y _ c L p a b h1).mono ?_; rw [HV.out]; rintro e w1 ⟨rfl, hu⟩; replace h1 := h1.upto hu; have hc := h1.c0; obtain ⟨q', e9, d0, d1, d2, d3, d4, d5, d6⟩ := h1.at_ hk; rw [HRK.out] at d0 d1 d2 d3 d4 d5 d6; cases e9; simp only at d0 d1 d2 d3 d4 d5 d6; have f5 := h1.frozen (k * 7 + 5); have f6 := h1.frozen (k * 7 + 6))
  have hU1 := hU.trans hu
  have H5 := (h1.upd hk (r := rels ⟨p', oa', oq', ia', ib', lv', hd'⟩) ⟨HOK.out.p, HOK.out.oa, HOK.out.ob, HOK.out.ia, HOK.out.ib, by show lv' - 1 ≤ _; omega, by show hd' ≤ _; omega⟩ (by rw [HRK.out]; exact ⟨rfl, rfl, rfl, rfl, rfl⟩) (u := (hd' : Int)) (v := (lv' : Int) - 1) (by show _ = ((hd' : Nat) : Int); omega) (by show _ = ((lv' - 1 : Nat) : Int); omega)).drew
  have hU5 := ((((Upto.refl (fun i => i = q) w1).setB (b := q) (o := k * 7 + 6) rfl (.int .i64 ((hd' : Int)))).setB (b := q) (o := k * 7 + 5) rfl (.int .i64 ((lv' : Int) - 1)))).drew
  have HU1 := Lib.hid hU1
  clear hu hU hU1 n0 n1
  go_region
  clear d0 d1 d2 d3 d4 d5 d6 f5 f6 hc h1
  generalize ((w1.setCell ⟨q, k * 7 + 6, none⟩ (.int .i64 ((hd' : Int)))).setCell ⟨q, k * 7 + 5, none⟩ (.int .i64 ((lv' : Int) - 1))).drew = W5 at H5 hU5 ⊢
  have HU5 := Lib.hid ((HU1.out.mono (T := fun i => i = q) (fun _ _ e => e.elim)).trans hU5)
  clear hU5 HU1
  have hk5 : k < (L.set k (rels ⟨p', oa', oq', ia', ib', lv', hd'⟩)).length := by rw [List.length_set]; exact hk
  obtain ⟨q', e9, d0, d1, d2, d3, d4, d5, d6⟩ := H5.at_ hk5
  rw [rwAt_set L k _ hk] at d0 d1 d2 d3 d4 d5 d6
  cases e9
  replace d5 : W5.cell? ⟨q, k * 7 + 5, none⟩ = some (.int .i64 ((lv' - 1 : Nat) : Int)) := d5
  replace d6 : W5.cell? ⟨q, k * 7 + 6, none⟩ = some (.int .i64 ((hd' : Nat) : Int)) := d6
  have hc := H5.c0
  rw [List.length_set] at hc
  obtain ⟨nh, hnh⟩ : ∃ n : Nat, hd' = n := ⟨_, rfl⟩
  obtain ⟨nl, hnl⟩ : ∃ n : Nat, lv' - 1 = n := ⟨_, rfl⟩
  rw [hnh] at d6
  rw [hnl] at d5
  have H5 := Lib.hid H5
  have hm1 : lv' - 1 = 0 := hm1
  have hm2 : hd' = 0 := hm2
  rw [hm1] at hnl
  rw [hm2] at hnh
  subst hnl; subst hnh
  obtain ⟨M, hM⟩ : ∃ M, L.set k (rels ⟨p', oa', oq', ia', ib', lv', hd'⟩) = M := ⟨_, rfl⟩
  rw [hM] at H5
  have HTK : Hid (M.take k = L.take k ∧ M.drop (k + 1) = L.drop (k + 1)) := Lib.hid (by
    rw [← hM]
    exact ⟨by rw [List.take_set_of_le (Nat.le_refl _)], by rw [List.drop_set_of_lt (by omega)]⟩)
  have hnL : M.length = L.length := by rw [← hM, List.length_set]
  clear hM hk5 d0 d1 d2 d3 d4
  obtain ⟨nL, hnl⟩ : ∃ n, L.length = n := ⟨_, rfl⟩
  rw [hnl] at hc hk hl z1 hnL
  have HNL := Lib.hid hnL
  have HNL0 := Lib.hid hnl
  have hR5 := RAt.own H5.out.own
  have hcl := hR5.le
  have hcm := hR5.cap
  rw [hnL] at hcl
  clear hnL hnl hR5
  have kc : k ≤ c := by omega
  obtain ⟨k1, hk1⟩ : ∃ k1, k1 = k + 1 := ⟨_, rfl⟩
  have hwk : IntKind.i64.wrap ((k : Int) + 1) = (k1 : Int) := by rw [IntWalk.i64_in _ (by omega), hk1]; simp
  have hwl : (k1 : Int) ≤ (nL : Int) := by omega
  have hwm : k1 ≤ nL := by omega
  have hw0 : (0 : Int) ≤ (k1 : Int) := by omega
  have HK1 := Lib.hid hk1
  rw [← hk1]
  rw [← hk1] at HTK
  clear hk1
  obtain ⟨i0, hi, hz0, hz1, hz2⟩ := info_parts Try.info83
  go_upto_region 6 with (fail)
  have hc1 : W5.drew.cell? ⟨y, 0, none⟩ = _ := hc
  have hfz : W5.drew.frozen? ⟨y, 0, none⟩ = false := H5.out.row.frozen 0
  have H6 := Lib.hid H5.out.drew
  have HU6 := Lib.hid HU5.out.drew
  clear hc d5 d6 H5 HU5
  have hle : (M.take k).length = k := by rw [List.length_take, HNL.out]; omega
  have hle2 : (M.drop k1).length = nL - k1 := by rw [List.length_drop, HNL.out]
  have hsrc1 : Src W5.drew (.slice (some ⟨q, 0, none⟩) k c) k 7 (wcl (M.take k)) := by
    have := ((RAt.own H6.out.own).take (k := k) (by rw [HNL.out]; omega)).src
    rwa [hle] at this
  have hws := HU6.out.size
  have HLE2 := Lib.hid hle2
  have HLE := Lib.hid hle
  clear hle hle2
  refine E_start (S := fun w' => w'.cell? ⟨y, 0, none⟩ = some (.slice (some ⟨q, 0, none⟩) nL c)) 18 (by kernel_rfl) hc1 (fun hHeld => ?_)
  refine E_take (i := 0) (v := ?_) rfl (by kernel_rfl) (by kernel_rfl) (by kernel_rfl) (by kernel_rfl) (fun _ _ _ h => h) (Or.inl ⟨by rfl, ?_⟩) (by assumption) ?_
  rotate_left
  · ((intro w hSw; (try dsimp only at hSw); go_simp); (try with_reducible rfl))
  try simp only [Act.put, List.getElem_toArray, List.getElem_cons_zero, List.getElem_cons_succ, List.setIfInBounds_toArray, List.set_cons_zero, List.set_cons_succ]
  refine E_take (i := 1) (v := ?_) rfl (by kernel_rfl) (by kernel_rfl) (by kernel_rfl) (by kernel_rfl) (fun _ _ _ h => h) (Or.inl ⟨by rfl, ?_⟩) (by assumption) ?_
  rotate_left
  · ((intro w hSw; (try dsimp only at hSw); go_simp); (try with_reducible rfl))
  try simp only [Act.put, List.getElem_toArray, List.getElem_cons_zero, List.getElem_cons_succ, List.setIfInBounds_toArray, List.set_cons_zero, List.set_cons_succ]
  refine E_take (i := 2) (v := ?_) rfl (by kernel_rfl) (by kernel_rfl) (by kernel_rfl) (by kernel_rfl) (fun _ _ _ h => h) (Or.inl ⟨by rfl, ?_⟩) (by assumption) ?_
  rotate_left
  · ((intro w hSw; (try dsimp only at hSw); go_simp); (try with_reducible rfl))
  try simp only [Act.put, List.getElem_toArray, List.getElem_cons_zero, List.getElem_cons_succ, List.setIfInBounds_toArray, List.set_cons_zero, List.set_cons_succ]
  refine E_take (i := 3) (v := ?_) rfl (by kernel_rfl) (by kernel_rfl) (by kernel_rfl) (by kernel_rfl) (fun _ _ _ h => h) (Or.inl ⟨by rfl, ?_⟩) (by assumption) ?_
  rotate_left
  · ((intro w hSw; (try dsimp only at hSw); go_simp); (try with_reducible rfl))
  try simp only [Act.put, List.getElem_toArray, List.getElem_cons_zero, List.getElem_cons_succ, List.setIfInBounds_toArray, List.set_cons_zero, List.set_cons_succ]
  refine E_take (i := 4) (v := ?_) rfl (by kernel_rfl) (by kernel_rfl) (by kernel_rfl) (by kernel_rfl) (fun _ _ _ h => h) (Or.inl ⟨by rfl, ?_⟩) (by assumption) ?_
  rotate_left
  · ((intro w hSw; (try dsimp only at hSw); go_simp); (try with_reducible rfl))
  try simp only [Act.put, List.getElem_toArray, List.getElem_cons_zero, List.getElem_cons_succ, List.setIfInBounds_toArray, List.set_cons_zero, List.set_cons_succ]
  refine E_take (i := 5) (v := ?_) rfl (by kernel_rfl) (by kernel_rfl) (by kernel_rfl) (by kernel_rfl) (fun _ _ _ h => h) (Or.inl ⟨by rfl, ?_⟩) (by assumption) ?_
  rotate_left
  · ((intro w hSw; (try dsimp only at hSw); go_simp); (try with_reducible rfl))
  try simp only [Act.put, List.getElem_toArray, List.getElem_cons_zero, List.getElem_cons_succ, List.setIfInBounds_toArray, List.set_cons_zero, List.set_cons_succ]
  refine E_take (i := 6) (v := ?_) rfl (by kernel_rfl) (by kernel_rfl) (by kernel_rfl) (by kernel_rfl) (fun _ _ _ h => h) (Or.inl ⟨by rfl, ?_⟩) (by assumption) ?_
  rotate_left
  · ((intro w hSw; (try dsimp only at hSw); go_simp); (try with_reducible rfl))
  try simp only [Act.put, List.getElem_toArray, List.getElem_cons_zero, List.getElem_cons_succ, List.setIfInBounds_toArray, List.set_cons_zero, List.set_cons_succ]
  refine E_take (i := 8) (v := ?_) rfl (by kernel_rfl) (by kernel_rfl) (by kernel_rfl) (by kernel_rfl) (fun _ _ _ h => h) (Or.inl ⟨by rfl, ?_⟩) (by assumption) ?_
  rotate_left
  · ((intro w hSw; (try dsimp only at hSw); go_simp); (try with_reducible rfl))
  try simp only [Act.put, List.getElem_toArray, List.getElem_cons_zero, List.getElem_cons_succ, List.setIfInBounds_toArray, List.set_cons_zero, List.set_cons_succ]
  refine E_take (i := 9) (v := ?_) rfl (by kernel_rfl) (by kernel_rfl) (by kernel_rfl) (by kernel_rfl) (fun _ _ _ h => h) (Or.inl ⟨by rfl, ?_⟩) (by assumption) ?_
  rotate_left
  · ((intro w hSw; (try dsimp only at hSw); go_simp); (try with_reducible rfl))
  try simp only [Act.put, List.getElem_toArray, List.getElem_cons_zero, List.getElem_cons_succ, List.setIfInBounds_toArray, List.set_cons_zero, List.set_cons_succ]
  refine E_take (i := 10) (v := ?_) rfl (by kernel_rfl) (by kernel_rfl) (by kernel_rfl) (by kernel_rfl) (fun _ _ _ h => h) (Or.inl ⟨by rfl, ?_⟩) (by assumption) ?_
  rotate_left
  · ((intro w hSw; (try dsimp only at hSw); go_simp); (try with_reducible rfl))
  try simp only [Act.put, List.getElem_toArray, List.getElem_cons_zero, List.getElem_cons_succ, List.setIfInBounds_toArray, List.set_cons_zero, List.set_cons_succ]
  refine E_take (i := 11) (v := ?_) rfl (by kernel_rfl) (by kernel_rfl) (by kernel_rfl) (by kernel_rfl) (fun _ _ _ h => h) (Or.inl ⟨by rfl, ?_⟩) (by assumption) ?_
  rotate_left
  · ((intro w hSw; (try dsimp only at hSw); go_simp); (try with_reducible rfl))
  try simp only [Act.put, List.getElem_toArray, List.getElem_cons_zero, List.getElem_cons_succ, List.setIfInBounds_toArray, List.set_cons_zero, List.set_cons_succ]
  refine E_take (i := 12) (v := ?_) rfl (by kernel_rfl) (by kernel_rfl) (by kernel_rfl) (by kernel_rfl) (fun _ _ _ h => h) (Or.inl ⟨by rfl, ?_⟩) (by assumption) ?_
  rotate_left
  · ((intro w hSw; (try dsimp only at hSw); go_simp); (try with_reducible rfl))
  try simp only [Act.put, List.getElem_toArray, List.getElem_cons_zero, List.getElem_cons_succ, List.setIfInBounds_toArray, List.set_cons_zero, List.set_cons_succ]
  refine E_take (i := 13) (v := .int .i64 (k1 : Nat)) rfl (by kernel_rfl) (by kernel_rfl) (by kernel_rfl) (by kernel_rfl) (fun _ _ _ h => h) (Or.inl ⟨by rfl, ?_⟩) (by assumption) ?_
  · (intro w hSw; (try dsimp only at hSw); go_simp; try (with_reducible rfl))
  try simp only [Act.put, List.getElem_toArray, List.getElem_cons_zero, List.getElem_cons_succ, List.setIfInBounds_toArray, List.set_cons_zero, List.set_cons_succ]
  refine E_take (i := 14) (v := .slice (if c = k1 then some ⟨q, 0, none⟩ else some ⟨q, 0 + k1 * 7, none⟩) (nL - k1) (c - k1)) rfl (by kernel_rfl) (by kernel_rfl) (by kernel_rfl) (by kernel_rfl) (fun _ _ _ h => h) (Or.inl ⟨by rfl, ?_⟩) (by assumption) ?_
  · (intro w hSw; (try dsimp only at hSw); go_simp; try (with_reducible rfl))
  try simp only [Act.put, List.getElem_toArray, List.getElem_cons_zero, List.getElem_cons_succ, List.setIfInBounds_toArray, List.set_cons_zero, List.set_cons_succ]
  refine E_one (i := 7) (by kernel_rfl) rfl (fun K hK => ?_)
  refine step_append_src _ (by rfl) _ _ _ (by rfl) w.heap.size 83 i0 _ 7 40 Try.underlying58 hi hz0 hz1 hz2 rfl (by omega) (.slice none 0 0) 0 [] (by rfl) (World.ownsRow_nil _ _ _ _) (.slice (some ⟨q, 0, none⟩) k c) k (wcl (M.take k)) (by rfl) hsrc1 (wcl_one _) (by unfold maxLen; omega) (by omega) (by omega) ?_
  intro v1 w2 hown1 hg1 hat1
  have hu1 : Upto NoS W5.drew w2 := (Upto.of_grown hg1).mono (fun k _ e => by simp [Value.ownBlock] at e)
  have hs2 : w.heap.size ≤ w2.heap.size := Nat.le_trans hws hu1.size
  simp only [Nat.zero_add, List.nil_append] at hown1
  obtain ⟨a1, c1, rfl, _⟩ := own_slice hown1
  have hf2 := (hu1.frozen (p := ⟨y, 0, none⟩) (H6.out.lt) id).trans hfz
  have hc2 := hu1.keep hc1 id
  have hsrc2 : Src w2 (.slice (if c = k1 then some ⟨q, 0, none⟩ else some ⟨q, 0 + k1 * 7, none⟩) (nL - k1) (c - k1)) (nL - k1) 7 (wcl (M.drop k1)) := by
    have := (((RAt.own H6.out.own).gen hu1 (fun _ h => h.elim)).drop' (k := k1) (by rw [HNL.out]; omega)).src
    rwa [HLE2.out] at this
  refine hK.out _ _ (.inr hc2) (fun hHeld => ?_)
  clear hK K
  try simp only [Act.put, List.getElem_toArray, List.getElem_cons_zero, List.getElem_cons_succ, List.setIfInBounds_toArray, List.set_cons_zero, List.set_cons_succ]
  refine E_one (i := 15) (by kernel_rfl) rfl (fun K hK => ?_)
  refine step_append_src _ (by rfl) _ _ _ (by rfl) w.heap.size 83 i0 _ 7 40 Try.underlying58 hi hz0 hz1 hz2 rfl (by omega) (.slice a1 k c1) k (wcl (M.take k)) (by rfl) hown1 _ (nL - k1) (wcl (M.drop k1)) (by rfl) hsrc2 (wcl_one _) (by unfold maxLen; omega) (by omega) (by omega) ?_
  intro v2 w3 hown2 hg2 hat2
  have hug2 := Upto.of_grown hg2
  obtain ⟨a2, c2, rfl, _⟩ := own_slice hown2
  have hb1 : ∀ b, (Value.slice a1 k c1).ownBlock = some b → w.heap.size ≤ b := fun b hb => (hown1.lt b hb).1
  have hyw := HH.out.lt
  have hny : ¬ (Value.slice a1 k c1).ownBlock = some y := fun e => by have := hb1 y e; omega
  have hf3 := (hug2.frozen (p := ⟨y, 0, none⟩) (Nat.lt_of_lt_of_le H6.out.lt hu1.size) hny).trans hf2
  have hc3 := hug2.keep hc2 hny
  refine hK.out _ _ (.inr hc3) (fun hHeld => ?_)
  clear hK K
  try simp only [Act.put, List.getElem_toArray, List.getElem_cons_zero, List.getElem_cons_succ, List.setIfInBounds_toArray, List.set_cons_zero, List.set_cons_succ]
  refine E_one (i := 16) (by kernel_rfl) rfl (fun K hK => ?_)
  go_simp
  refine hK.out _ _ (.inr hc3) (fun hHeld => ?_)
  clear hK K
  try simp only [Act.put, List.getElem_toArray, List.getElem_cons_zero, List.getElem_cons_succ, List.setIfInBounds_toArray, List.set_cons_zero, List.set_cons_succ]
  refine E_one (i := 17) (by kernel_rfl) rfl (fun K hK => ?_)
  go_simp
  refine hK.out _ _ (.inr hc3) (fun hHeld => ?_)
  clear hK K
  try simp only [Act.put, List.getElem_toArray, List.getElem_cons_zero, List.getElem_cons_succ, List.setIfInBounds_toArray, List.set_cons_zero, List.set_cons_succ]
  refine E_one (i := 18) (by kernel_rfl) rfl (fun K hK => ?_)
  go_simp
  refine hK.out _ _ (.inl rfl) (fun hHeld => ?_)
  clear hK K
  try simp only [Act.put, List.getElem_toArray, List.getElem_cons_zero, List.getElem_cons_succ, List.setIfInBounds_toArray, List.set_cons_zero, List.set_cons_succ]
  refine E_done (by kernel_rfl) ?_ _
  have HEND : RIn (w3.setCell ⟨y, 0, none⟩ (.slice a2 (k + (nL - k1)) c2)) base y a2 c2 (L.take k ++ L.drop (k + 1)) ∧ Upto (RfS y (some ⟨q, 0, none⟩)) w (w3.setCell ⟨y, 0, none⟩ (.slice a2 (k + (nL - k1)) c2)) ∧ ∀ j, RfS y a2 j → RfS y (some ⟨q, 0, none⟩) j ∨ w.heap.size ≤ j := by
    rw [show k + 1 = k1 from HK1.out.symm]
    have hk1 := HK1.out
    have hlen : (M.take k ++ M.drop k1).length = k + (nL - k1) := by rw [List.length_append, HLE.out, HLE2.out]
    have hU3 : Upto (fun i => i = q) w w3 := (HU6.out.trans' hu1 (fun _ _ h => h.elim)).trans' hug2 (fun b hb e => by have := hb1 b e; omega)
    rw [← wcl_append] at hown2
    have hb2 : ∀ b, (Value.slice a2 (k + (nL - k1)) c2).ownBlock = some b → w.heap.size ≤ b := fun b hb => (hown2.lt b hb).1
    have hrow3 := (hug2.row (hu1.row H6.out.row id) hny).set 0 (.slice a2 (k + (nL - k1)) c2)
    have hown3 := ((Upto.refl (fun i => i = y) w3).setB (b := y) (o := 0) rfl (.slice a2 (k + (nL - k1)) c2)).own hown2 (fun b hb e => by have := hb2 b hb; have e : b = y := e; omega)
    have hbase : base ≤ w.heap.size := Nat.le_trans HH.out.lo (Nat.le_of_lt hyw)
    refine ⟨?_, (hU3.mono (fun i _ e => .inr (by rw [show i = q from e]; rfl))).setB (.inl rfl) _, fun j hj => ?_⟩
    · rw [← HTK.out.1, ← HTK.out.2]
      refine ⟨?_, ?_, fun s hs => ?_, by rw [hlen]; omega, ?_, HH.out.lo⟩
      · rw [hlen]; exact hrow3.congr (fun i hi => by rw [if_pos (by omega)])
      · rw [hlen]; exact own_base hown3 hbase
      · rw [HTK.out.1, HTK.out.2] at hs
        rcases List.mem_append.1 hs with hs | hs
        · exact HH.out.ok s (List.mem_of_mem_take hs)
        · exact HH.out.ok s (List.mem_of_mem_drop hs)
      · rw [hlen]; exact fun e => by have := hb2 y e; omega
    · rcases hj with e | e
      · exact .inl (.inl e)
      · exact .inr (hb2 j ((ownBlock_any a2 _ _ _ _).trans e))
  go_wp2_with fail
  all_goals
    go_ret
    exact ⟨rfl, _, _, HEND⟩
end Go.Proofs.Ytfiblchdfacdiaa
