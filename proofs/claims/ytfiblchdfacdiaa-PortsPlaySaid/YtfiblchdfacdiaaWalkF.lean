/- Ports' Fix and Take where the inner endpoint has a row: walked. -/
import Derived.Test.YtfiblchdfacdiaaTakeH
import Derived.Test.YtfiblchdfacdiaaEqs
namespace Go.Proofs.Ytfiblchdfacdiaa
open Go Go.RowKit Go.Deep Go.Maps

theorem Fix_have_no (w : World) (x rb ob : Nat) (T : List (Rw × Nat)) (p ia ib oa oq : Nat) (r : Rw × Nat) (h : PsAt w x rb ob T) (hp : p < 256) (hia : ia < 4294967296) (hib : ib < 65536) (hoa : oa < 4294967296) (hoq : oq < 65536)
    (hI : fI T p ia ib = some r) (hne : ¬ (r.1.oa = oa ∧ r.1.ob = oq)) (hO : fO T p oa oq = none) :
    Calls Try.prog 13 #[.pointer (some ⟨x, 0, none⟩), .int .u8 p, ev ia ib, ev oa oq] w (Told (.int .i64 7) w) := by
  have hb : (!(r.1.oa == oa && r.1.ob == oq)) = true := by
    rw [Bool.not_eq_true', Bool.and_eq_false_iff]
    by_cases e : r.1.oa = oa
    · right; simpa using fun e' => hne ⟨e, e'⟩
    · left; simpa using e
  obtain ⟨hr, _, _, _⟩ := PsAt.fI_mem hI
  have hok := h.ok _ hr
  have h2 := (h.alloc (.cells #[.int .u32 ia, .int .u16 ib] 26)).alloc (.cells #[.int .u32 oa, .int .u16 oq] 26)
  have c0 := h2.c0
  have c1 := h2.c1
  have c2 := (h2.alloc (.cells #[.int .u32 0, .int .u16 0] 26)).c1
  have hu : Upto NoS w _ := (((Upto.refl NoS w).alloc (.cells #[.int .u32 ia, .int .u16 ib] 26)).alloc (.cells #[.int .u32 oa, .int .u16 oq] 26)).alloc (.cells #[.int .u32 r.1.oa, .int .u16 r.1.ob] 26)
  have H3 := h2.alloc (.cells #[.int .u32 r.1.oa, .int .u16 r.1.ob] 26)
  have c3 := H3.c0
  have l1 := h2.drew.lookI hp hia hib hI
  have l2 := (h2.alloc (.cells #[.int .u32 0, .int .u16 0] 26)).drew.lookI hp hia hib hI
  have hq := fun w' => neq26 w' r.1.oa r.1.ob oa oq
  have hg := fun w' x y => guard26n w' x y r.1.oa r.1.ob oa oq
  rw [hb] at hq
  go_enter Try.func13, Try.ntmps13
  go_wp2_with (go_at_call 29; refine (none_no _ _ _ _ _ h2).mono ?_; rintro e w' ⟨rfl, rfl⟩)
  go_region
  all_goals
    go_wp2
    have l4 := fun n => (H3.drewN n).lookO_no hp hoa hoq hO
    go_quiet (fail)
    go_wp2
    go_ret
    exact ⟨rfl, hu.drewN _⟩
theorem Fix_have_some (w : World) (x rb ob : Nat) (T : List (Rw × Nat)) (p ia ib oa oq : Nat) (r : Rw × Nat) (h : PsAt w x rb ob T) (hp : p < 256) (hia : ia < 4294967296) (hib : ib < 65536) (hoa : oa < 4294967296) (hoq : oq < 65536)
    (hI : fI T p ia ib = some r) (hne : ¬ (r.1.oa = oa ∧ r.1.ob = oq)) (s : Rw × Nat) (hO : fO T p oa oq = some s) :
    Calls Try.prog 13 #[.pointer (some ⟨x, 0, none⟩), .int .u8 p, ev ia ib, ev oa oq] w (Told (.int .i64 7) w) := by
  have hb : (!(r.1.oa == oa && r.1.ob == oq)) = true := by
    rw [Bool.not_eq_true', Bool.and_eq_false_iff]
    by_cases e : r.1.oa = oa
    · right; simpa using fun e' => hne ⟨e, e'⟩
    · left; simpa using e
  obtain ⟨hr, _, _, _⟩ := PsAt.fI_mem hI
  have hok := h.ok _ hr
  have h2 := (h.alloc (.cells #[.int .u32 ia, .int .u16 ib] 26)).alloc (.cells #[.int .u32 oa, .int .u16 oq] 26)
  have c0 := h2.c0
  have c1 := h2.c1
  have c2 := (h2.alloc (.cells #[.int .u32 0, .int .u16 0] 26)).c1
  have hu : Upto NoS w _ := (((Upto.refl NoS w).alloc (.cells #[.int .u32 ia, .int .u16 ib] 26)).alloc (.cells #[.int .u32 oa, .int .u16 oq] 26)).alloc (.cells #[.int .u32 r.1.oa, .int .u16 r.1.ob] 26)
  have H3 := h2.alloc (.cells #[.int .u32 r.1.oa, .int .u16 r.1.ob] 26)
  have c3 := H3.c0
  have l1 := h2.drew.lookI hp hia hib hI
  have l2 := (h2.alloc (.cells #[.int .u32 0, .int .u16 0] 26)).drew.lookI hp hia hib hI
  have hq := fun w' => neq26 w' r.1.oa r.1.ob oa oq
  have hg := fun w' x y => guard26n w' x y r.1.oa r.1.ob oa oq
  rw [hb] at hq
  go_enter Try.func13, Try.ntmps13
  go_wp2_with (go_at_call 29; refine (none_no _ _ _ _ _ h2).mono ?_; rintro e w' ⟨rfl, rfl⟩)
  go_region
  all_goals
    go_wp2
    have l4 := fun n => (H3.drewN n).lookO hp hoa hoq hO
    go_quiet (fail)
    go_wp2
    go_ret
    exact ⟨rfl, hu.drewN _⟩
set_option maxHeartbeats 1000000 in
theorem Fix_held (w : World) (x rb ob : Nat) (T : List (Rw × Nat)) (p ia ib : Nat) (r : Rw × Nat) (h : PsAt w x rb ob T) (hp : p < 256) (hia : ia < 4294967296) (hib : ib < 65536)
    (hI : fI T p ia ib = some r) (hh : r.1.held < 1000000) :
    Calls Try.prog 13 #[.pointer (some ⟨x, 0, none⟩), .int .u8 p, ev ia ib, ev r.1.oa r.1.ob] w fun e w' => e = .returned (.int .i64 0) ∧ PsAt w' x rb ob (updT T r.2 hold) ∧ Upto (fun k => k = r.2) w w' := by
  obtain ⟨⟨p0, oa, oq, ia0, ib0, live0, held0⟩, kb⟩ := r
  have hh : held0 < 1000000 := hh
  obtain ⟨hr', ep, _, _⟩ := PsAt.fI_mem hI
  have ep : p0 = p := ep
  subst ep
  show Calls Try.prog 13 #[.pointer (some ⟨x, 0, none⟩), .int .u8 p0, ev ia ib, ev oa oq] w fun e w' => e = .returned (.int .i64 0) ∧ PsAt w' x rb ob (updT T kb hold) ∧ Upto (fun k => k = kb) w w'
  have hO := h.fO_of_mem hr'
  have hb : (!(oa == oa && oq == oq)) = false := by simp
  obtain ⟨hr, _, _, _⟩ := PsAt.fI_mem hI
  have hok := h.ok _ hr
  have h2 := (h.alloc (.cells #[.int .u32 ia, .int .u16 ib] 26)).alloc (.cells #[.int .u32 oa, .int .u16 oq] 26)
  have c0 := h2.c0
  have c1 := h2.c1
  have c2 := (h2.alloc (.cells #[.int .u32 0, .int .u16 0] 26)).c1
  have hu : Upto NoS w _ := (((Upto.refl NoS w).alloc (.cells #[.int .u32 ia, .int .u16 ib] 26)).alloc (.cells #[.int .u32 oa, .int .u16 oq] 26)).alloc (.cells #[.int .u32 oa, .int .u16 oq] 26)
  have H3 := h2.alloc (.cells #[.int .u32 oa, .int .u16 oq] 26)
  have c3 := H3.c0
  have l1 := h2.drew.lookI hp hia hib hI
  have l2 := (h2.alloc (.cells #[.int .u32 0, .int .u16 0] 26)).drew.lookI hp hia hib hI
  have hq := fun w' => neq26 w' oa oq oa oq
  have hg := fun w' x y => guard26n w' x y oa oq oa oq
  rw [hb] at hq
  have hwr : IntKind.i64.wrap ((held0 : Int) + 1) = (held0 : Int) + 1 := IntWalk.i64_in _ (by omega)
  have hR7 := H3.blk _ hr
  have v6 := (rw_cells hR7).2.2.2.2.2.2
  have f6 := hR7.frozen 6
  go_enter Try.func13, Try.ntmps13
  go_wp2_with (go_at_call 29; refine (none_no _ _ _ _ _ h2).mono ?_; rintro e w' ⟨rfl, rfl⟩)
  go_region
  all_goals
    go_wp2
    have l4 := fun n => (H3.drewN n).lookO hp hok.oa hok.ob hO
    go_quiet (fail)
    have v6 := (rw_cells ((H3.drewN (1 + nq)).blk _ hr)).2.2.2.2.2.2
    have f6 := ((H3.drewN (1 + nq)).blk _ hr).frozen 6
    go_wp2
    go_ret
    have hU := (hu.mono (T := fun k => k = kb) (fun _ _ h => h.elim)).drewN (1 + nq)
    refine ⟨rfl, (H3.drewN (1 + nq)).upd hr hold hold_keys ⟨hok.p, hok.oa, hok.ob, hok.ia, hok.ib, hok.live, by show held0 + 1 ≤ _; omega⟩ ((Upto.refl (fun k => k = kb) _).setB rfl _) (set_held ((H3.drewN (1 + nq)).blk _ hr)), hU.trans ((Upto.refl (fun k => k = kb) _).setB rfl _)⟩
set_option maxRecDepth 100000 in
set_option maxHeartbeats 2000000 in
theorem Take_have_a (w : World) (x rb ob : Nat) (T : List (Rw × Nat)) (W : Ws) (r : Rw × Nat) (h : PsAt w x rb ob T) (hWk : W.Ok) (hW : W.may) (hI : fI T W.p W.ia W.ib = some r) (hc : ¬ r.1.oa = W.ip) :
    Calls Try.prog 14 #[.pointer (some ⟨x, 0, none⟩), wv W] w (Told (.tuple #[ev 0 0, .int .i64 7]) w) := by
  obtain ⟨⟨p0, oa0, ob0, ia0, ib0, live0, held0⟩, kb⟩ := r
  have h4 := (((h.alloc (.cells #[.pointer (some ⟨x, 0, none⟩)] 31)).alloc (.cells (wcells W) 28)).alloc (.cells #[.int .u32 0, .int .u16 0] 26)).alloc (.cells #[.int .i64 0] 37)
  have hk := tk_new w x W
  have hu4 := (((Upto.refl NoS w).alloc (.cells #[.pointer (some ⟨x, 0, none⟩)] 31)).alloc (.cells (wcells W) 28)).alloc (.cells #[.int .u32 0, .int .u16 0] 26) |>.alloc (.cells #[.int .i64 0] 37)
  go_enter Try.func14, Try.ntmps14
  go_wp2_with (first
    | (go_at_call 29; refine (none_no _ _ _ _ _ h4).mono ?_; rintro e w' ⟨rfl, rfl⟩)
    | (go_at_call 31; refine (may_any _ W true (decide_eq_true hW)).mono ?_; rintro e w5 ⟨rfl, hu⟩; replace hk := hk.no hu; obtain ⟨g1, g2, g3, g4, g5, g6, g7⟩ := hk.facts; obtain ⟨d0, d1, d2, d3, d4, d5, d6⟩ := ws_cells hk.wr))
  have h5 := h4.upto hu
  have hu5 := hu4.trans hu
  clear h4 hu4 hu
  have h6 := h5.alloc (.cells #[.int .u32 0, .int .u16 0] 26)
  have c1 := h5.c1
  have c2 := h6.c1
  have l1 := h5.drew.lookI hWk.p hWk.ia hWk.ib hI
  have l2 := h6.drew.lookI hWk.p hWk.ia hWk.ib hI
  have k7 := hk.no ((Upto.refl NoS w5).alloc (.cells #[.int .u32 oa0, .int .u16 ob0] 26))
  have u7 := hu5.alloc (.cells #[.int .u32 oa0, .int .u16 ob0] 26)
  have k6 := hk.no ((Upto.refl NoS w5).alloc (.cells #[.int .u32 0, .int .u16 0] 26))
  have m1 := k6.facts.1
  obtain ⟨n0, n1, n2, n3, n4, n5, n6⟩ := ws_cells k6.wr
  obtain ⟨j1, j2, j3, j4, j5, j6, j7⟩ := k7.facts
  obtain ⟨i0, i1, i2, i3, i4, i5, i6⟩ := ws_cells k7.wr
  have hc : ¬ oa0 = W.ip := hc
  have b1 : ((oa0 : Int) != (W.ip : Int)) = true := by simp; omega
  have K8 := Lib.hid (k7.no ((Upto.refl NoS _).drew))
  have U8 := Lib.hid u7.drew
  clear h5 h6 k6 k7 hk u7 hu5
  go_region
  all_goals
    go_wp2
    obtain ⟨q1, q2, q3⟩ := K8.out.fin (by omega) 0 0 7
    exact bodyPost_ret (res_ee (a := 0) (b := 0) Try.results14 _ rfl rfl q1 q2 q3) rfl ⟨rfl, fin_upto U8.out (by omega) (by omega) _ _ _⟩
set_option maxRecDepth 100000 in
set_option maxHeartbeats 2000000 in
theorem Take_have_b (w : World) (x rb ob : Nat) (T : List (Rw × Nat)) (W : Ws) (r : Rw × Nat) (h : PsAt w x rb ob T) (hWk : W.Ok) (hW : W.may) (hI : fI T W.p W.ia W.ib = some r) (hc0 : r.1.oa = W.ip) (hc : r.1.ob < W.fr) :
    Calls Try.prog 14 #[.pointer (some ⟨x, 0, none⟩), wv W] w (Told (.tuple #[ev 0 0, .int .i64 7]) w) := by
  obtain ⟨⟨p0, oa0, ob0, ia0, ib0, live0, held0⟩, kb⟩ := r
  have h4 := (((h.alloc (.cells #[.pointer (some ⟨x, 0, none⟩)] 31)).alloc (.cells (wcells W) 28)).alloc (.cells #[.int .u32 0, .int .u16 0] 26)).alloc (.cells #[.int .i64 0] 37)
  have hk := tk_new w x W
  have hu4 := (((Upto.refl NoS w).alloc (.cells #[.pointer (some ⟨x, 0, none⟩)] 31)).alloc (.cells (wcells W) 28)).alloc (.cells #[.int .u32 0, .int .u16 0] 26) |>.alloc (.cells #[.int .i64 0] 37)
  go_enter Try.func14, Try.ntmps14
  go_wp2_with (first
    | (go_at_call 29; refine (none_no _ _ _ _ _ h4).mono ?_; rintro e w' ⟨rfl, rfl⟩)
    | (go_at_call 31; refine (may_any _ W true (decide_eq_true hW)).mono ?_; rintro e w5 ⟨rfl, hu⟩; replace hk := hk.no hu; obtain ⟨g1, g2, g3, g4, g5, g6, g7⟩ := hk.facts; obtain ⟨d0, d1, d2, d3, d4, d5, d6⟩ := ws_cells hk.wr))
  have h5 := h4.upto hu
  have hu5 := hu4.trans hu
  clear h4 hu4 hu
  have h6 := h5.alloc (.cells #[.int .u32 0, .int .u16 0] 26)
  have c1 := h5.c1
  have c2 := h6.c1
  have l1 := h5.drew.lookI hWk.p hWk.ia hWk.ib hI
  have l2 := h6.drew.lookI hWk.p hWk.ia hWk.ib hI
  have k7 := hk.no ((Upto.refl NoS w5).alloc (.cells #[.int .u32 oa0, .int .u16 ob0] 26))
  have u7 := hu5.alloc (.cells #[.int .u32 oa0, .int .u16 ob0] 26)
  have k6 := hk.no ((Upto.refl NoS w5).alloc (.cells #[.int .u32 0, .int .u16 0] 26))
  have m1 := k6.facts.1
  obtain ⟨n0, n1, n2, n3, n4, n5, n6⟩ := ws_cells k6.wr
  obtain ⟨j1, j2, j3, j4, j5, j6, j7⟩ := k7.facts
  obtain ⟨i0, i1, i2, i3, i4, i5, i6⟩ := ws_cells k7.wr
  have hc0 : oa0 = W.ip := hc0
  have hc : ob0 < W.fr := hc
  subst hc0
  have b1 : ((W.ip : Int) != (W.ip : Int)) = false := by simp
  have b2 : decide ((ob0 : Int) < W.fr) = true := decide_eq_true (by omega)
  have K8 := Lib.hid (k7.no ((Upto.refl NoS _).drew))
  have U8 := Lib.hid u7.drew
  clear h5 h6 k6 k7 hk u7 hu5
  go_region
  all_goals
    go_wp2
    obtain ⟨q1, q2, q3⟩ := K8.out.fin (by omega) 0 0 7
    exact bodyPost_ret (res_ee (a := 0) (b := 0) Try.results14 _ rfl rfl q1 q2 q3) rfl ⟨rfl, fin_upto U8.out (by omega) (by omega) _ _ _⟩
set_option maxRecDepth 100000 in
set_option maxHeartbeats 2000000 in
theorem Take_have_c (w : World) (x rb ob : Nat) (T : List (Rw × Nat)) (W : Ws) (r : Rw × Nat) (h : PsAt w x rb ob T) (hWk : W.Ok) (hW : W.may) (hI : fI T W.p W.ia W.ib = some r) (hc0 : r.1.oa = W.ip) (hc1 : W.fr ≤ r.1.ob) (hc : W.tu < r.1.ob) :
    Calls Try.prog 14 #[.pointer (some ⟨x, 0, none⟩), wv W] w (Told (.tuple #[ev 0 0, .int .i64 7]) w) := by
  obtain ⟨⟨p0, oa0, ob0, ia0, ib0, live0, held0⟩, kb⟩ := r
  have h4 := (((h.alloc (.cells #[.pointer (some ⟨x, 0, none⟩)] 31)).alloc (.cells (wcells W) 28)).alloc (.cells #[.int .u32 0, .int .u16 0] 26)).alloc (.cells #[.int .i64 0] 37)
  have hk := tk_new w x W
  have hu4 := (((Upto.refl NoS w).alloc (.cells #[.pointer (some ⟨x, 0, none⟩)] 31)).alloc (.cells (wcells W) 28)).alloc (.cells #[.int .u32 0, .int .u16 0] 26) |>.alloc (.cells #[.int .i64 0] 37)
  go_enter Try.func14, Try.ntmps14
  go_wp2_with (first
    | (go_at_call 29; refine (none_no _ _ _ _ _ h4).mono ?_; rintro e w' ⟨rfl, rfl⟩)
    | (go_at_call 31; refine (may_any _ W true (decide_eq_true hW)).mono ?_; rintro e w5 ⟨rfl, hu⟩; replace hk := hk.no hu; obtain ⟨g1, g2, g3, g4, g5, g6, g7⟩ := hk.facts; obtain ⟨d0, d1, d2, d3, d4, d5, d6⟩ := ws_cells hk.wr))
  have h5 := h4.upto hu
  have hu5 := hu4.trans hu
  clear h4 hu4 hu
  have h6 := h5.alloc (.cells #[.int .u32 0, .int .u16 0] 26)
  have c1 := h5.c1
  have c2 := h6.c1
  have l1 := h5.drew.lookI hWk.p hWk.ia hWk.ib hI
  have l2 := h6.drew.lookI hWk.p hWk.ia hWk.ib hI
  have k7 := hk.no ((Upto.refl NoS w5).alloc (.cells #[.int .u32 oa0, .int .u16 ob0] 26))
  have u7 := hu5.alloc (.cells #[.int .u32 oa0, .int .u16 ob0] 26)
  have k6 := hk.no ((Upto.refl NoS w5).alloc (.cells #[.int .u32 0, .int .u16 0] 26))
  have m1 := k6.facts.1
  obtain ⟨n0, n1, n2, n3, n4, n5, n6⟩ := ws_cells k6.wr
  obtain ⟨j1, j2, j3, j4, j5, j6, j7⟩ := k7.facts
  obtain ⟨i0, i1, i2, i3, i4, i5, i6⟩ := ws_cells k7.wr
  have hc0 : oa0 = W.ip := hc0
  have hc1 : W.fr ≤ ob0 := hc1
  have hc : W.tu < ob0 := hc
  subst hc0
  have b1 : ((W.ip : Int) != (W.ip : Int)) = false := by simp
  have b2 : decide ((ob0 : Int) < W.fr) = false := decide_eq_false (by omega)
  have b3 : decide ((W.tu : Int) < ob0) = true := decide_eq_true (by omega)
  have K8 := Lib.hid (k7.no ((Upto.refl NoS _).drew))
  have U8 := Lib.hid u7.drew
  clear h5 h6 k6 k7 hk u7 hu5
  go_region
  all_goals
    go_wp2
    obtain ⟨q1, q2, q3⟩ := K8.out.fin (by omega) 0 0 7
    exact bodyPost_ret (res_ee (a := 0) (b := 0) Try.results14 _ rfl rfl q1 q2 q3) rfl ⟨rfl, fin_upto U8.out (by omega) (by omega) _ _ _⟩
end Go.Proofs.Ytfiblchdfacdiaa
