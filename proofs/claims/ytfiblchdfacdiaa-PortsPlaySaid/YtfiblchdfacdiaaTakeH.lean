/- Ports' Take, where the inner endpoint has a row that fits. -/
import Derived.Test.YtfiblchdfacdiaaTakeE
namespace Go.Proofs.Ytfiblchdfacdiaa
open Go Go.RowKit Go.Deep Go.Maps

/-- One more that is held. -/
def hold (r : Rw) : Rw := { r with held := r.held + 1 }
theorem hold_keys : KeepsKeys hold := ⟨fun _ => rfl, fun _ => rfl, fun _ => rfl, fun _ => rfl, fun _ => rfl⟩
theorem set_held {w : World} {k : Nat} {r : Rw} (hR : w.rowIs k 42 7 (rwF r)) : (w.setCell ⟨k, 6, none⟩ (.int .i64 ((r.held : Int) + 1))).rowIs k 42 7 (rwF (hold r)) := by
  refine (hR.set 6 _).congr fun i hi => ?_
  match i, hi with
  | 0, _ => rfl | 1, _ => rfl | 2, _ => rfl | 3, _ => rfl | 4, _ => rfl | 5, _ => rfl
  | 6, _ => simp [rwF, hold]

theorem updT_blk {T : List (Rw × Nat)} {k : Nat} {f : Rw → Rw} {s : Rw × Nat} (hs : s ∈ updT T k f) : ∃ s0 ∈ T, s.2 = s0.2 := by
  obtain ⟨s0, hs0, rfl⟩ := List.mem_map.1 hs
  refine ⟨s0, hs0, ?_⟩
  split <;> rfl
set_option maxHeartbeats 1000000 in
theorem held_end {w : World} {x rb ob : Nat} {T : List (Rw × Nat)} {W : Ws} {tmps : Array Value} {r : Rw × Nat} (h : PsAt w x rb ob T) (w7 : World) (h7 : PsAt w7 x rb ob T) (k7 : TkF w7 x w.heap.size (w.heap.size + 1) (w.heap.size + 1 + 1) (w.heap.size + 1 + 1 + 1) W) (u7 : Upto NoS w w7)
    (hr : r ∈ T) (hh : r.1.held < 1000000) (hp : tmps.getD 4 undef = .pointer (some ⟨w.heap.size + 1 + 1, 0, none⟩)) (hu : tmps.getD 5 undef = .pointer (some ⟨w.heap.size + 1 + 1 + 1, 0, none⟩)) :
    bodyPost Try.prog Try.f14 (fun e w' => e = .returned (.tuple #[ev r.1.oa r.1.ob, .int .i64 0]) ∧ PsAt w' x rb ob (updT T r.2 hold) ∧ Upto (fun k => k = r.2) w w') .ret { tmps := tmps, defers := [] }
      ((((w7.setCell ⟨r.2, 6, none⟩ (.int .i64 ((r.1.held : Int) + 1))).setCell ⟨w.heap.size + 1 + 1, 0, none⟩ (.int .u32 (r.1.oa : Nat))).setCell ⟨w.heap.size + 1 + 1, 1, none⟩ (.int .u16 (r.1.ob : Nat))).setCell ⟨w.heap.size + 1 + 1 + 1, 0, none⟩ (.int .i64 0)).drew.drew := by
  have hrl := (h.blk r hr).lt
  have hx := h.lt
  have hrb := h.rows.lt
  have hob := h.of_.lt
  have hbk := fun r hr => (h.blk r hr).lt
  have hok := h.ok r hr
  have uh : Upto (fun k => k = r.2) w7 (w7.setCell ⟨r.2, 6, none⟩ (.int .i64 ((r.1.held : Int) + 1))) := (Upto.refl (fun k => k = r.2) w7).setB rfl _
  have h8 := h7.upd hr hold hold_keys ⟨hok.p, hok.oa, hok.ob, hok.ia, hok.ib, hok.live, by show r.1.held + 1 ≤ _; omega⟩ uh (set_held (h7.blk r hr))
  have k8 := k7.upto uh (fun k hk => by omega)
  obtain ⟨q1, q2, q3⟩ := k8.fin (by omega) r.1.oa r.1.ob 0
  have ub : Upto (fun k => k = w.heap.size + 1 + 1 ∨ k = w.heap.size + 1 + 1 + 1) (w7.setCell ⟨r.2, 6, none⟩ (.int .i64 ((r.1.held : Int) + 1))) _ := (((Upto.refl (fun k => k = w.heap.size + 1 + 1 ∨ k = w.heap.size + 1 + 1 + 1) _).setB (b := w.heap.size + 1 + 1) (o := 0) (.inl rfl) (.int .u32 (r.1.oa : Nat))).setB (b := w.heap.size + 1 + 1) (o := 1) (.inl rfl) (.int .u16 (r.1.ob : Nat))).setB (b := w.heap.size + 1 + 1 + 1) (o := 0) (.inr rfl) (.int .i64 0)
  have h9 := h8.gen ub (fun k hk hs => by
    rcases hs with rfl | rfl | rfl | ⟨s, hs, rfl⟩
    · omega
    · omega
    · omega
    · obtain ⟨s0, hs0, e0⟩ := updT_blk hs
      have := hbk s0 hs0
      omega)
  have un := fin_upto ((u7.mono (T := fun k => k = r.2) (fun _ _ h => h.elim)).trans uh) (B3 := w.heap.size + 1 + 1) (B4 := w.heap.size + 1 + 1 + 1) (by omega) (by omega) (.int .u32 (r.1.oa : Nat)) (.int .u16 (r.1.ob : Nat)) (.int .i64 0)
  exact bodyPost_ret (res_ee Try.results14 _ hp hu q1 q2 q3) rfl ⟨rfl, h9.drew.drew, un.drew.drew⟩

set_option maxRecDepth 100000 in
set_option maxHeartbeats 2000000 in
theorem Take_held (w : World) (x rb ob : Nat) (T : List (Rw × Nat)) (W : Ws) (r : Rw × Nat) (h : PsAt w x rb ob T) (hWk : W.Ok) (hW : W.may) (hI : fI T W.p W.ia W.ib = some r) (hf1 : r.1.oa = W.ip) (hf2 : W.fr ≤ r.1.ob) (hf3 : r.1.ob ≤ W.tu) (hh : r.1.held < 1000000) :
    Calls Try.prog 14 #[.pointer (some ⟨x, 0, none⟩), wv W] w fun e w' => e = .returned (.tuple #[ev r.1.oa r.1.ob, .int .i64 0]) ∧ PsAt w' x rb ob (updT T r.2 hold) ∧ Upto (fun k => k = r.2) w w' := by
  obtain ⟨⟨p0, oa0, ob0, ia0, ib0, live0, held0⟩, kb⟩ := r
  have hf1 : oa0 = W.ip := hf1
  have hf2 : W.fr ≤ ob0 := hf2
  have hf3 : ob0 ≤ W.tu := hf3
  have hh : held0 < 1000000 := hh
  subst hf1
  obtain ⟨hr, ep, _, _⟩ := PsAt.fI_mem hI
  have ep : p0 = W.p := ep
  show Calls Try.prog 14 _ w fun e w' => e = .returned (.tuple #[ev W.ip ob0, .int .i64 0]) ∧ PsAt w' x rb ob (updT T kb hold) ∧ Upto (fun k => k = kb) w w'
  subst ep
  have hO := h.fO_of_mem hr
  have hok := h.ok _ hr
  have hrl := (h.blk _ hr).lt
  have h4 := (((h.alloc (.cells #[.pointer (some ⟨x, 0, none⟩)] 31)).alloc (.cells (wcells W) 28)).alloc (.cells #[.int .u32 0, .int .u16 0] 26)).alloc (.cells #[.int .i64 0] 37)
  have hk := tk_new w x W
  have hu4 := (((Upto.refl NoS w).alloc (.cells #[.pointer (some ⟨x, 0, none⟩)] 31)).alloc (.cells (wcells W) 28)).alloc (.cells #[.int .u32 0, .int .u16 0] 26) |>.alloc (.cells #[.int .i64 0] 37)
  have hs4 : w.heap.size + 1 + 1 + 1 + 1 ≤ ((((w.alloc (.cells #[.pointer (some ⟨x, 0, none⟩)] 31)).alloc (.cells (wcells W) 28)).alloc (.cells #[.int .u32 0, .int .u16 0] 26)).alloc (.cells #[.int .i64 0] 37)).heap.size := by simp
  go_enter Try.func14, Try.ntmps14
  go_wp2_with (first
    | (go_at_call 29; refine (none_no _ _ _ _ _ h4).mono ?_; rintro e w' ⟨rfl, rfl⟩)
    | (go_at_call 31; refine (may_any _ W true (decide_eq_true hW)).mono ?_; rintro e w5 ⟨rfl, hu⟩; replace hk := hk.no hu; obtain ⟨g1, g2, g3, g4, g5, g6, g7⟩ := hk.facts; obtain ⟨d0, d1, d2, d3, d4, d5, d6⟩ := ws_cells hk.wr))
  have h5 := h4.upto hu
  have hu5 := hu4.trans hu
  have hs5 := Nat.le_trans hs4 hu.size
  clear h4 hu4 hu hs4
  have h6 := h5.alloc (.cells #[.int .u32 0, .int .u16 0] 26)
  have c1 := h5.c1
  have c2 := h6.c1
  have l1 := h5.drew.lookI hWk.p hWk.ia hWk.ib hI
  have l2 := h6.drew.lookI hWk.p hWk.ia hWk.ib hI
  have h7 := h5.alloc (.cells #[.int .u32 W.ip, .int .u16 ob0] 26)
  have k7 := hk.no ((Upto.refl NoS w5).alloc (.cells #[.int .u32 W.ip, .int .u16 ob0] 26))
  have u7 := hu5.alloc (.cells #[.int .u32 W.ip, .int .u16 ob0] 26)
  have k6 := hk.no ((Upto.refl NoS w5).alloc (.cells #[.int .u32 0, .int .u16 0] 26))
  have m1 := k6.facts.1
  obtain ⟨n0, n1, n2, n3, n4, n5, n6⟩ := ws_cells k6.wr
  obtain ⟨j1, j2, j3, j4, j5, j6, j7⟩ := k7.facts
  obtain ⟨i0, i1, i2, i3, i4, i5, i6⟩ := ws_cells k7.wr
  have c7 := h7.c0
  have l7 := h7.drew.drew.lookO hWk.p hok.oa hok.ob hO
  have hR7 := h7.blk _ hr
  have v6 := (rw_cells hR7).2.2.2.2.2.2
  have f6 := hR7.frozen 6
  have b1 : ((W.ip : Int) != (W.ip : Int)) = false := by simp
  have b2 : decide ((ob0 : Int) < W.fr) = false := decide_eq_false (by omega)
  have b3 : decide ((W.tu : Int) < ob0) = false := decide_eq_false (by omega)
  have hwr : IntKind.i64.wrap ((held0 : Int) + 1) = (held0 : Int) + 1 := IntWalk.i64_in _ (by omega)
  have HEND := Lib.hid (fun (tmps : Array Value) (e4 : tmps.getD 4 undef = .pointer (some ⟨w.heap.size + 1 + 1, 0, none⟩)) (e5 : tmps.getD 5 undef = .pointer (some ⟨w.heap.size + 1 + 1 + 1, 0, none⟩)) =>
    held_end (tmps := tmps) h (w5.alloc (.cells #[.int .u32 W.ip, .int .u16 ob0] 26)) h7 k7 u7 hr hh e4 e5)
  go_region
  all_goals
    go_wp2
    go_region
    all_goals
      go_wp2
      exact HEND.out _ rfl rfl
end Go.Proofs.Ytfiblchdfacdiaa
