/- Ports' Confirm, Drop, Release: walked. -/
import Derived.Test.YtfiblchdfacdiaaWalkD
namespace Go.Proofs.Ytfiblchdfacdiaa
open Go Go.RowKit Go.Deep Go.Maps

def conf (r : Rw) : Rw := { r with held := r.held - 1, live := r.live + 1 }
def drp (r : Rw) : Rw := { r with held := r.held - 1 }
def rels (r : Rw) : Rw := { r with live := r.live - 1 }
theorem conf_keys : KeepsKeys conf := ⟨fun _ => rfl, fun _ => rfl, fun _ => rfl, fun _ => rfl, fun _ => rfl⟩
theorem drp_keys : KeepsKeys drp := ⟨fun _ => rfl, fun _ => rfl, fun _ => rfl, fun _ => rfl, fun _ => rfl⟩
theorem rels_keys : KeepsKeys rels := ⟨fun _ => rfl, fun _ => rfl, fun _ => rfl, fun _ => rfl, fun _ => rfl⟩
theorem set_drp {w : World} {k : Nat} {r : Rw} (hR : w.rowIs k 42 7 (rwF r)) (h0 : 0 < r.held) : (w.setCell ⟨k, 6, none⟩ (.int .i64 ((r.held : Int) - 1))).rowIs k 42 7 (rwF (drp r)) := by
  have e : (r.held : Int) - 1 = ((r.held - 1 : Nat) : Int) := by omega
  rw [e]
  refine (hR.set 6 _).congr fun i hi => ?_
  match i, hi with
  | 0, _ => rfl | 1, _ => rfl | 2, _ => rfl | 3, _ => rfl | 4, _ => rfl | 5, _ => rfl | 6, _ => rfl
theorem set_rels {w : World} {k : Nat} {r : Rw} (hR : w.rowIs k 42 7 (rwF r)) (h0 : 0 < r.live) : (w.setCell ⟨k, 5, none⟩ (.int .i64 ((r.live : Int) - 1))).rowIs k 42 7 (rwF (rels r)) := by
  have e : (r.live : Int) - 1 = ((r.live - 1 : Nat) : Int) := by omega
  rw [e]
  refine (hR.set 5 _).congr fun i hi => ?_
  match i, hi with
  | 0, _ => rfl | 1, _ => rfl | 2, _ => rfl | 3, _ => rfl | 4, _ => rfl | 5, _ => rfl | 6, _ => rfl
theorem set_conf {w : World} {k : Nat} {r : Rw} (hR : w.rowIs k 42 7 (rwF r)) (h0 : 0 < r.held) : ((w.setCell ⟨k, 6, none⟩ (.int .i64 ((r.held : Int) - 1))).setCell ⟨k, 5, none⟩ (.int .i64 ((r.live : Int) + 1))).rowIs k 42 7 (rwF (conf r)) := by
  have e : (r.held : Int) - 1 = ((r.held - 1 : Nat) : Int) := by omega
  rw [e]
  refine ((hR.set 6 _).set 5 _).congr fun i hi => ?_
  match i, hi with
  | 0, _ => rfl | 1, _ => rfl | 2, _ => rfl | 3, _ => rfl | 4, _ => rfl | 5, _ => simp [rwF, conf] | 6, _ => rfl
theorem row_drew {w : World} {b t n : Nat} {f : Nat → Value} (h : w.rowIs b t n f) : w.drew.rowIs b t n f := h
theorem PsAt.split {w : World} {x rb ob : Nat} {T : List (Rw × Nat)} (h : PsAt w x rb ob T) {r : Rw × Nat} (hr : r ∈ T) (f : Rw → Rw) :
    ∃ T1 T2, T = T1 ++ r :: T2 ∧ updT T r.2 f = T1 ++ (f r.1, r.2) :: T2 := by
  obtain ⟨T1, T2, rfl⟩ := List.append_of_mem hr
  refine ⟨T1, T2, rfl, ?_⟩
  have hn := h.nodup
  rw [List.map_append, List.map_cons, List.nodup_append] at hn
  obtain ⟨_, h2, h3⟩ := hn
  rw [List.nodup_cons] at h2
  unfold updT
  rw [List.map_append, List.map_cons, if_pos rfl]
  congr 1
  · rw [List.map_congr_left (g := id), List.map_id]
    intro s hs
    rw [if_neg (fun e => h3 s.2 (List.mem_map_of_mem (f := (·.2)) hs) r.2 List.mem_cons_self e)]
    rfl
  · congr 1
    rw [List.map_congr_left (g := id), List.map_id]
    intro s hs
    rw [if_neg (fun e => h2.1 (by rw [← e]; exact List.mem_map_of_mem (f := (·.2)) hs))]
    rfl

theorem Confirm_no (w : World) (x rb ob : Nat) (T : List (Rw × Nat)) (p a b : Nat) (h : PsAt w x rb ob T) (hp : p < 256) (ha : a < 4294967296) (hb : b < 65536) (hf : fO T p a b = none) :
    Calls Try.prog 18 #[.pointer (some ⟨x, 0, none⟩), .int .u8 p, ev a b] w (Told (.int .i64 6) w) := by
  have h2 := h.alloc (.cells #[.int .u32 a, .int .u16 b] 26)
  go_enter Try.func18, Try.ntmps18
  go_wp2_with (go_at_call 33; refine (row_no _ _ _ _ _ _ _ _ h2 hp ha hb hf).mono ?_; rintro e w1 ⟨rfl, hu⟩)
  go_ret
  exact ⟨rfl, ((Upto.refl NoS w).alloc _).trans hu⟩
theorem Confirm_zero (w : World) (x rb ob : Nat) (T : List (Rw × Nat)) (p a b : Nat) (r : Rw × Nat) (h : PsAt w x rb ob T) (hp : p < 256) (ha : a < 4294967296) (hb : b < 65536) (hf : fO T p a b = some r) (h0 : r.1.held = 0) :
    Calls Try.prog 18 #[.pointer (some ⟨x, 0, none⟩), .int .u8 p, ev a b] w (Told (.int .i64 6) w) := by
  obtain ⟨⟨p0, oa0, ob0, ia0, ib0, live0, held0⟩, kb⟩ := r
  have h0 : held0 = 0 := h0
  subst h0
  obtain ⟨hr, e1, e2, e3⟩ := PsAt.fO_mem hf
  have h2 := h.alloc (.cells #[.int .u32 a, .int .u16 b] 26)
  go_enter Try.func18, Try.ntmps18
  go_wp2_with (go_at_call 33; refine (row_some _ _ _ _ _ _ _ _ _ h2 hp ha hb hf).mono ?_; rintro e w1 ⟨rfl, hu⟩; obtain ⟨d0, d1, d2, d3, d4, d5, d6⟩ := rw_cells ((h2.upto hu).blk _ hr))
  go_ret
  exact ⟨rfl, ((Upto.refl NoS w).alloc _).trans hu⟩

theorem Drop_no (w : World) (x rb ob : Nat) (T : List (Rw × Nat)) (p a b : Nat) (h : PsAt w x rb ob T) (hp : p < 256) (ha : a < 4294967296) (hb : b < 65536) (hf : fO T p a b = none) :
    Calls Try.prog 19 #[.pointer (some ⟨x, 0, none⟩), .int .u8 p, ev a b] w (Told (.int .i64 6) w) := by
  have h2 := h.alloc (.cells #[.int .u32 a, .int .u16 b] 26)
  go_enter Try.func19, Try.ntmps19
  go_wp2_with (go_at_call 33; refine (row_no _ _ _ _ _ _ _ _ h2 hp ha hb hf).mono ?_; rintro e w1 ⟨rfl, hu⟩)
  go_ret
  exact ⟨rfl, ((Upto.refl NoS w).alloc _).trans hu⟩
theorem Drop_zero (w : World) (x rb ob : Nat) (T : List (Rw × Nat)) (p a b : Nat) (r : Rw × Nat) (h : PsAt w x rb ob T) (hp : p < 256) (ha : a < 4294967296) (hb : b < 65536) (hf : fO T p a b = some r) (h0 : r.1.held = 0) :
    Calls Try.prog 19 #[.pointer (some ⟨x, 0, none⟩), .int .u8 p, ev a b] w (Told (.int .i64 6) w) := by
  obtain ⟨⟨p0, oa0, ob0, ia0, ib0, live0, held0⟩, kb⟩ := r
  have h0 : held0 = 0 := h0
  subst h0
  obtain ⟨hr, e1, e2, e3⟩ := PsAt.fO_mem hf
  have h2 := h.alloc (.cells #[.int .u32 a, .int .u16 b] 26)
  go_enter Try.func19, Try.ntmps19
  go_wp2_with (go_at_call 33; refine (row_some _ _ _ _ _ _ _ _ _ h2 hp ha hb hf).mono ?_; rintro e w1 ⟨rfl, hu⟩; obtain ⟨d0, d1, d2, d3, d4, d5, d6⟩ := rw_cells ((h2.upto hu).blk _ hr))
  go_ret
  exact ⟨rfl, ((Upto.refl NoS w).alloc _).trans hu⟩

theorem Release_no (w : World) (x rb ob : Nat) (T : List (Rw × Nat)) (p a b : Nat) (h : PsAt w x rb ob T) (hp : p < 256) (ha : a < 4294967296) (hb : b < 65536) (hf : fO T p a b = none) :
    Calls Try.prog 20 #[.pointer (some ⟨x, 0, none⟩), .int .u8 p, ev a b] w (Told (.int .i64 6) w) := by
  have h2 := h.alloc (.cells #[.int .u32 a, .int .u16 b] 26)
  go_enter Try.func20, Try.ntmps20
  go_wp2_with (go_at_call 33; refine (row_no _ _ _ _ _ _ _ _ h2 hp ha hb hf).mono ?_; rintro e w1 ⟨rfl, hu⟩)
  go_ret
  exact ⟨rfl, ((Upto.refl NoS w).alloc _).trans hu⟩
theorem Release_zero (w : World) (x rb ob : Nat) (T : List (Rw × Nat)) (p a b : Nat) (r : Rw × Nat) (h : PsAt w x rb ob T) (hp : p < 256) (ha : a < 4294967296) (hb : b < 65536) (hf : fO T p a b = some r) (h0 : r.1.live = 0) :
    Calls Try.prog 20 #[.pointer (some ⟨x, 0, none⟩), .int .u8 p, ev a b] w (Told (.int .i64 6) w) := by
  obtain ⟨⟨p0, oa0, ob0, ia0, ib0, live0, held0⟩, kb⟩ := r
  have h0 : live0 = 0 := h0
  subst h0
  obtain ⟨hr, e1, e2, e3⟩ := PsAt.fO_mem hf
  have h2 := h.alloc (.cells #[.int .u32 a, .int .u16 b] 26)
  go_enter Try.func20, Try.ntmps20
  go_wp2_with (go_at_call 33; refine (row_some _ _ _ _ _ _ _ _ _ h2 hp ha hb hf).mono ?_; rintro e w1 ⟨rfl, hu⟩; obtain ⟨d0, d1, d2, d3, d4, d5, d6⟩ := rw_cells ((h2.upto hu).blk _ hr))
  go_ret
  exact ⟨rfl, ((Upto.refl NoS w).alloc _).trans hu⟩

set_option maxHeartbeats 1000000 in
theorem Confirm_ok (w : World) (x rb ob : Nat) (T : List (Rw × Nat)) (p a b : Nat) (r : Rw × Nat) (h : PsAt w x rb ob T) (hp : p < 256) (ha : a < 4294967296) (hb : b < 65536) (hf : fO T p a b = some r) (h0 : 0 < r.1.held) (hm : r.1.live < 1000000) :
    Calls Try.prog 18 #[.pointer (some ⟨x, 0, none⟩), .int .u8 p, ev a b] w fun e w' => e = .returned (.int .i64 0) ∧ PsAt w' x rb ob (updT T r.2 conf) ∧ Upto (fun k => k = r.2) w w' := by
  obtain ⟨⟨p0, oa0, ob0, ia0, ib0, live0, held0⟩, kb⟩ := r
  have h0 : 0 < held0 := h0
  have hm : live0 < 1000000 := hm
  show Calls Try.prog 18 _ w fun e w' => e = .returned (.int .i64 0) ∧ PsAt w' x rb ob (updT T kb conf) ∧ Upto (fun k => k = kb) w w'
  obtain ⟨hr, e1, e2, e3⟩ := PsAt.fO_mem hf
  have hok := h.ok _ hr
  have g1 : live0 ≤ 1000000 := hok.live
  have g2 : held0 ≤ 1000000 := hok.held
  have h2 := h.alloc (.cells #[.int .u32 a, .int .u16 b] 26)
  have hz : ((held0 : Int) == 0) = false := by simp; omega
  have hw1 : IntKind.i64.wrap ((held0 : Int) - 1) = (held0 : Int) - 1 := IntWalk.i64_in _ (by omega)
  have hw2 : IntKind.i64.wrap ((live0 : Int) + 1) = (live0 : Int) + 1 := IntWalk.i64_in _ (by omega)
  go_enter Try.func18, Try.ntmps18
  go_wp2_with (go_at_call 33; refine (row_some _ _ _ _ _ _ _ _ _ h2 hp ha hb hf).mono ?_; rintro e w1 ⟨rfl, hu⟩; have hR := (h2.upto hu).blk _ hr; obtain ⟨d0, d1, d2, d3, d4, d5, d6⟩ := rw_cells hR; have f5 := hR.frozen 5; have f6 := hR.frozen 6)
  have H1 := h2.upto hu
  have hU : Upto NoS w w1 := ((Upto.refl NoS w).alloc _).trans hu
  have HR := Lib.hid hR
  have HH := Lib.hid H1
  have HU := Lib.hid hU
  clear hR H1 hU hu h2 h d0 d1 d2 d3 d4
  have hfin : ∀ w' : World, Upto (fun k => k = kb) w1 w' → w'.rowIs kb 42 7 (rwF (conf ⟨p0, oa0, ob0, ia0, ib0, live0, held0⟩)) → PsAt w' x rb ob (updT T kb conf) ∧ Upto (fun k => k = kb) w w' := fun w' hu hrow =>
    ⟨HH.out.upd hr conf conf_keys ⟨hok.p, hok.oa, hok.ob, hok.ia, hok.ib, by show live0 + 1 ≤ _; omega, by show held0 - 1 ≤ _; omega⟩ hu hrow, (HU.out.mono (fun _ _ e => e.elim)).trans hu⟩
  have HF := Lib.hid hfin
  clear hfin
  go_region
  all_goals
    go_wp2
    go_ret
    have hs := set_conf HR.out h0
    have hs := row_drew hs
    refine ⟨rfl, HF.out _ ?_ ?_⟩
    · refine Upto.drew ?_
      exact ((Upto.refl (fun k => k = kb) w1).setB (b := kb) (o := 6) rfl _).setB (b := kb) (o := 5) rfl _
    · exact hs

set_option maxHeartbeats 1000000 in
theorem Drop_keep (w : World) (x rb ob : Nat) (T : List (Rw × Nat)) (p a b : Nat) (r : Rw × Nat) (h : PsAt w x rb ob T) (hp : p < 256) (ha : a < 4294967296) (hb : b < 65536) (hf : fO T p a b = some r) (h0 : 0 < r.1.held) (hm : 0 < (drp r.1).live + (drp r.1).held) :
    Calls Try.prog 19 #[.pointer (some ⟨x, 0, none⟩), .int .u8 p, ev a b] w fun e w' => e = .returned (.int .i64 0) ∧ PsAt w' x rb ob (updT T r.2 drp) ∧ Upto (fun k => k = r.2) w w' := by
  obtain ⟨⟨p0, oa0, ob0, ia0, ib0, live0, held0⟩, kb⟩ := r
  have h0 : 0 < held0 := h0
  obtain ⟨hr, e1, e2, e3⟩ := PsAt.fO_mem hf
  have hok := h.ok _ hr
  have g1 : live0 ≤ 1000000 := hok.live
  have g2 : held0 ≤ 1000000 := hok.held
  have h2 := h.alloc (.cells #[.int .u32 a, .int .u16 b] 26)
  have hz : ((held0 : Int) == 0) = false := by simp; omega
  have hw1 : IntKind.i64.wrap ((held0 : Int) - 1) = (held0 : Int) - 1 := IntWalk.i64_in _ (by omega)
  go_enter Try.func19, Try.ntmps19
  go_wp2_with (first
    | (go_at_call 33; refine (row_some _ _ _ _ _ _ _ _ _ h2 hp ha hb hf).mono ?_; rintro e w1 ⟨rfl, hu⟩; have hR := (h2.upto hu).blk _ hr; obtain ⟨d0, d1, d2, d3, d4, d5, d6⟩ := rw_cells hR; have f5 := hR.frozen 5; have f6 := hR.frozen 6; have hP := (h2.upto hu).upd hr drp drp_keys ⟨hok.p, hok.oa, hok.ob, hok.ia, hok.ib, by show live0 ≤ _; omega, by show held0 - 1 ≤ _; omega⟩ ((Upto.refl (fun k => k = kb) w1).setB rfl _) (set_drp hR h0); have hM := (List.mem_map.2 ⟨_, hr, if_pos rfl⟩ : _ ∈ updT T kb drp))
    | (go_at_call 34; refine (settle_keep _ _ _ _ _ _ hP hM hm).mono ?_; rintro e w3 ⟨rfl, hu3⟩))
  go_ret
  exact ⟨rfl, hP.upto hu3, ((((Upto.refl NoS w).alloc _).trans hu).mono (fun _ _ e => e.elim)).trans (((Upto.refl (fun k => k = kb) w1).setB rfl _).trans (hu3.mono (fun _ _ e => e.elim)))⟩
set_option maxHeartbeats 1000000 in
theorem Drop_go (w : World) (x rb ob : Nat) (T : List (Rw × Nat)) (p a b : Nat) (r : Rw × Nat) (h : PsAt w x rb ob T) (hp : p < 256) (ha : a < 4294967296) (hb : b < 65536) (hf : fO T p a b = some r) (h0 : 0 < r.1.held) (hm1 : (drp r.1).live = 0) (hm2 : (drp r.1).held = 0) :
    Calls Try.prog 19 #[.pointer (some ⟨x, 0, none⟩), .int .u8 p, ev a b] w fun e w' => e = .returned (.int .i64 0) ∧ (∃ T1 T2, T = T1 ++ r :: T2 ∧ PsAt w' x rb ob (T1 ++ T2)) ∧ Upto (fun k => k = r.2 ∨ k = rb ∨ k = ob) w w' := by
  obtain ⟨⟨p0, oa0, ob0, ia0, ib0, live0, held0⟩, kb⟩ := r
  have h0 : 0 < held0 := h0
  obtain ⟨hr, e1, e2, e3⟩ := PsAt.fO_mem hf
  have hok := h.ok _ hr
  have g1 : live0 ≤ 1000000 := hok.live
  have g2 : held0 ≤ 1000000 := hok.held
  have h2 := h.alloc (.cells #[.int .u32 a, .int .u16 b] 26)
  have hz : ((held0 : Int) == 0) = false := by simp; omega
  have hw1 : IntKind.i64.wrap ((held0 : Int) - 1) = (held0 : Int) - 1 := IntWalk.i64_in _ (by omega)
  obtain ⟨T1, T2, hT, hT'⟩ := h.split hr drp
  go_enter Try.func19, Try.ntmps19
  go_wp2_with (first
    | (go_at_call 33; refine (row_some _ _ _ _ _ _ _ _ _ h2 hp ha hb hf).mono ?_; rintro e w1 ⟨rfl, hu⟩; have hR := (h2.upto hu).blk _ hr; obtain ⟨d0, d1, d2, d3, d4, d5, d6⟩ := rw_cells hR; have f5 := hR.frozen 5; have f6 := hR.frozen 6; have hP := (h2.upto hu).upd hr drp drp_keys ⟨hok.p, hok.oa, hok.ob, hok.ia, hok.ib, by show live0 ≤ _; omega, by show held0 - 1 ≤ _; omega⟩ ((Upto.refl (fun k => k = kb) w1).setB rfl _) (set_drp hR h0); rw [hT'] at hP)
    | (go_at_call 34; refine (settle_go _ _ _ _ _ _ _ _ hP hm1 hm2).mono ?_; rintro e w3 ⟨rfl, hP3, hu3⟩))
  go_ret
  exact ⟨rfl, ⟨T1, T2, hT, hP3⟩, ((((Upto.refl NoS w).alloc _).trans hu).mono (fun _ _ e => e.elim)).trans ((((Upto.refl (fun k => k = kb) w1).setB rfl _).mono (fun _ _ e => .inl e)).trans (hu3.mono (fun _ _ e => .inr e)))⟩

set_option maxHeartbeats 1000000 in
theorem Release_keep (w : World) (x rb ob : Nat) (T : List (Rw × Nat)) (p a b : Nat) (r : Rw × Nat) (h : PsAt w x rb ob T) (hp : p < 256) (ha : a < 4294967296) (hb : b < 65536) (hf : fO T p a b = some r) (h0 : 0 < r.1.live) (hm : 0 < (rels r.1).live + (rels r.1).held) :
    Calls Try.prog 20 #[.pointer (some ⟨x, 0, none⟩), .int .u8 p, ev a b] w fun e w' => e = .returned (.int .i64 0) ∧ PsAt w' x rb ob (updT T r.2 rels) ∧ Upto (fun k => k = r.2) w w' := by
  obtain ⟨⟨p0, oa0, ob0, ia0, ib0, live0, held0⟩, kb⟩ := r
  have h0 : 0 < live0 := h0
  obtain ⟨hr, e1, e2, e3⟩ := PsAt.fO_mem hf
  have hok := h.ok _ hr
  have g1 : live0 ≤ 1000000 := hok.live
  have g2 : held0 ≤ 1000000 := hok.held
  have h2 := h.alloc (.cells #[.int .u32 a, .int .u16 b] 26)
  have hz : ((live0 : Int) == 0) = false := by simp; omega
  have hw1 : IntKind.i64.wrap ((live0 : Int) - 1) = (live0 : Int) - 1 := IntWalk.i64_in _ (by omega)
  go_enter Try.func20, Try.ntmps20
  go_wp2_with (first
    | (go_at_call 33; refine (row_some _ _ _ _ _ _ _ _ _ h2 hp ha hb hf).mono ?_; rintro e w1 ⟨rfl, hu⟩; have hR := (h2.upto hu).blk _ hr; obtain ⟨d0, d1, d2, d3, d4, d5, d6⟩ := rw_cells hR; have f5 := hR.frozen 5; have f6 := hR.frozen 6; have hP := (h2.upto hu).upd hr rels rels_keys ⟨hok.p, hok.oa, hok.ob, hok.ia, hok.ib, by show live0 - 1 ≤ _; omega, by show held0 ≤ _; omega⟩ ((Upto.refl (fun k => k = kb) w1).setB rfl _) (set_rels hR h0); have hM := (List.mem_map.2 ⟨_, hr, if_pos rfl⟩ : _ ∈ updT T kb rels))
    | (go_at_call 34; refine (settle_keep _ _ _ _ _ _ hP hM hm).mono ?_; rintro e w3 ⟨rfl, hu3⟩))
  go_ret
  exact ⟨rfl, hP.upto hu3, ((((Upto.refl NoS w).alloc _).trans hu).mono (fun _ _ e => e.elim)).trans (((Upto.refl (fun k => k = kb) w1).setB rfl _).trans (hu3.mono (fun _ _ e => e.elim)))⟩
set_option maxHeartbeats 1000000 in
theorem Release_go (w : World) (x rb ob : Nat) (T : List (Rw × Nat)) (p a b : Nat) (r : Rw × Nat) (h : PsAt w x rb ob T) (hp : p < 256) (ha : a < 4294967296) (hb : b < 65536) (hf : fO T p a b = some r) (h0 : 0 < r.1.live) (hm1 : (rels r.1).live = 0) (hm2 : (rels r.1).held = 0) :
    Calls Try.prog 20 #[.pointer (some ⟨x, 0, none⟩), .int .u8 p, ev a b] w fun e w' => e = .returned (.int .i64 0) ∧ (∃ T1 T2, T = T1 ++ r :: T2 ∧ PsAt w' x rb ob (T1 ++ T2)) ∧ Upto (fun k => k = r.2 ∨ k = rb ∨ k = ob) w w' := by
  obtain ⟨⟨p0, oa0, ob0, ia0, ib0, live0, held0⟩, kb⟩ := r
  have h0 : 0 < live0 := h0
  obtain ⟨hr, e1, e2, e3⟩ := PsAt.fO_mem hf
  have hok := h.ok _ hr
  have g1 : live0 ≤ 1000000 := hok.live
  have g2 : held0 ≤ 1000000 := hok.held
  have h2 := h.alloc (.cells #[.int .u32 a, .int .u16 b] 26)
  have hz : ((live0 : Int) == 0) = false := by simp; omega
  have hw1 : IntKind.i64.wrap ((live0 : Int) - 1) = (live0 : Int) - 1 := IntWalk.i64_in _ (by omega)
  obtain ⟨T1, T2, hT, hT'⟩ := h.split hr rels
  go_enter Try.func20, Try.ntmps20
  go_wp2_with (first
    | (go_at_call 33; refine (row_some _ _ _ _ _ _ _ _ _ h2 hp ha hb hf).mono ?_; rintro e w1 ⟨rfl, hu⟩; have hR := (h2.upto hu).blk _ hr; obtain ⟨d0, d1, d2, d3, d4, d5, d6⟩ := rw_cells hR; have f5 := hR.frozen 5; have f6 := hR.frozen 6; have hP := (h2.upto hu).upd hr rels rels_keys ⟨hok.p, hok.oa, hok.ob, hok.ia, hok.ib, by show live0 - 1 ≤ _; omega, by show held0 ≤ _; omega⟩ ((Upto.refl (fun k => k = kb) w1).setB rfl _) (set_rels hR h0); rw [hT'] at hP)
    | (go_at_call 34; refine (settle_go _ _ _ _ _ _ _ _ hP hm1 hm2).mono ?_; rintro e w3 ⟨rfl, hP3, hu3⟩))
  go_ret
  exact ⟨rfl, ⟨T1, T2, hT, hP3⟩, ((((Upto.refl NoS w).alloc _).trans hu).mono (fun _ _ e => e.elim)).trans ((((Upto.refl (fun k => k = kb) w1).setB rfl _).mono (fun _ _ e => .inl e)).trans (hu3.mono (fun _ _ e => .inr e)))⟩
end Go.Proofs.Ytfiblchdfacdiaa
