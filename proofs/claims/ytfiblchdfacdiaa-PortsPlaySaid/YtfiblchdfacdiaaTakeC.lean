/- Ports' Take, where the inner endpoint has no row. -/
import Derived.Test.YtfiblchdfacdiaaTakeE
namespace Go.Proofs.Ytfiblchdfacdiaa
open Go Go.RowKit Go.Deep Go.Maps
attribute [local go_sem] Oper.semAt_some

set_option maxRecDepth 100000 in
set_option maxHeartbeats 2000000 in
theorem Take_new (w : World) (x rb ob : Nat) (T : List (Rw × Nat)) (W : Ws) (h : PsAt w x rb ob T) (hWk : W.Ok) (hW : W.may) (hI : fI T W.p W.ia W.ib = none) (hT : T.length < 1000000) :
    Calls Try.prog 14 #[.pointer (some ⟨x, 0, none⟩), wv W] w (TakePost w x rb ob T W) := by
  have h4 := (((h.alloc (.cells #[.pointer (some ⟨x, 0, none⟩)] 31)).alloc (.cells (wcells W) 28)).alloc (.cells #[.int .u32 0, .int .u16 0] 26)).alloc (.cells #[.int .i64 0] 37)
  have hk := tk_new w x W
  have hu4 := (((Upto.refl NoS w).alloc (.cells #[.pointer (some ⟨x, 0, none⟩)] 31)).alloc (.cells (wcells W) 28)).alloc (.cells #[.int .u32 0, .int .u16 0] 26) |>.alloc (.cells #[.int .i64 0] 37)
  have hs4 : w.heap.size + 1 + 1 + 1 + 1 ≤ ((((w.alloc (.cells #[.pointer (some ⟨x, 0, none⟩)] 31)).alloc (.cells (wcells W) 28)).alloc (.cells #[.int .u32 0, .int .u16 0] 26)).alloc (.cells #[.int .i64 0] 37)).heap.size := by simp
  refine (callsIn_wide (n := 4)).1 ?_
  refine callsIn_of_wp_marks Try.func14 rfl trivial ?_ rfl
  simp only [Try.ntmps14, List.size_toArray, List.length_cons, List.length_nil, Nat.reduceAdd, Nat.reduceSub, Array.replicate_succ, Array.replicate_zero, List.push_toArray, List.append_toArray, List.nil_append, List.cons_append]
  refine wpIn_wide.2 ?_
  go_wp2_with (first
    | (go_at_call 29; refine (none_no _ _ _ _ _ h4).mono ?_; rintro e w' ⟨rfl, rfl⟩)
    | (go_at_call 31; refine (may_any _ W true (decide_eq_true hW)).mono ?_; rintro e w5 ⟨rfl, hu⟩; replace hk := hk.no hu; obtain ⟨g1, g2, g3, g4, g5, g6, g7⟩ := hk.facts; obtain ⟨d0, d1, d2, d3, d4, d5, d6⟩ := ws_cells hk.wr))
  have h5 := h4.upto hu
  have hu5 := hu4.trans hu
  have hs5 := Nat.le_trans hs4 hu.size
  clear h4 hu4 hu hs4
  have h6 := h5.alloc (.cells #[.int .u32 0, .int .u16 0] 26)
  have k6 := (hk.no ((Upto.refl NoS w5).alloc (.cells #[.int .u32 0, .int .u16 0] 26)))
  obtain ⟨j1, j2, j3, j4, j5, j6, j7⟩ := k6.facts
  obtain ⟨i0, i1, i2, i3, i4, i5, i6⟩ := ws_cells k6.wr
  have k6d := k6.no (Upto.refl NoS _).drew
  have c1 := h5.c1
  have c2 := h6.c1
  have l1 := h5.drew.lookI_no hWk.p hWk.ia hWk.ib hI
  have l2 := h6.drew.lookI_no hWk.p hWk.ia hWk.ib hI
  have u6 := (hu5.alloc (.cells #[.int .u32 0, .int .u16 0] 26)).drew
  have q6 := h6.drew
  have z6 : ((w5.alloc (.cells #[.int .u32 0, .int .u16 0] 26)).drew).heap.size = w5.heap.size + 1 := by simp
  go_region
  all_goals
    go_wp2
    clear h5 hk h6 k6 g1 g2 g3 g4 g5 g6 g7 d0 d1 d2 d3 d4 d5 d6 j1 j2 j3 j4 j5 j6 j7 i0 i1 i2 i3 i4 i5 i6 c1 c2 l1 l2 hu5
    generalize (w5.alloc (.cells #[.int .u32 0, .int .u16 0] 26)).drew = W6 at u6 q6 k6d z6 ⊢
    refine (wpIn_wide (n := 3 + 1)).1 ?_
    refine take_loop w x rb ob w.heap.size w5.heap.size T W hWk hW hT hI (Nat.le_refl _) h W6 (by omega) q6 k6d u6 ?done ?stop
    case done =>
      intro D w' hD hJ hDk
      obtain ⟨g1, g2, g3, g4, g5, g6, g7⟩ := hJ.tk.facts
      go_wp2
      exact done_end h (by omega) hD (by omega) hJ hDk rfl rfl
    case stop =>
      intro D pre w' hD hpre hX hDk
      gi_wp2
      exact stop_end h (by omega) hD hpre hX hDk rfl rfl
end Go.Proofs.Ytfiblchdfacdiaa
