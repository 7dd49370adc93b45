/- Ports' New, may, Count, Of; the reference's May and Doc: walked. -/
import Derived.Test.YtfiblchdfacdiaaWalkA
import Derived.Test.YtfiblchdfacdiaaTried
namespace Go.Proofs.Ytfiblchdfacdiaa
open Go Go.RowKit Go.Deep Go.Maps

theorem New_any (w : World) : Calls Try.prog 9 #[] w fun e w' => ∃ x rb ob, e = .returned (.pointer (some ⟨x, 0, none⟩)) ∧ PsAt w' x rb ob [] ∧ Upto NoS w w' ∧ w.heap.size ≤ x ∧ w.heap.size ≤ rb ∧ w.heap.size ≤ ob := by
  have hmm := @run_makeMap Try.prog
  go_enter Try.func9, Try.ntmps9
  go_wp2
  go_ret
  have hr : (((w.alloc (.map #[] 0)).alloc (.map #[] 0)).alloc (.cells #[.map (some w.heap.size), .map (some (w.heap.size + 1))] 68)).rowIs (w.heap.size + 1 + 1) 68 2 (fun i => if i = 0 then .map (some w.heap.size) else .map (some (w.heap.size + 1))) := by
    have := World.rowIs_alloc ((w.alloc (.map #[] 0)).alloc (.map #[] 0)) #[.map (some w.heap.size), .map (some (w.heap.size + 1))] 68 (fun i => if i = 0 then .map (some w.heap.size) else .map (some (w.heap.size + 1))) (fun i hi => by
      have : i < 2 := hi
      match i, this with
      | 0, _ => rfl | 1, _ => rfl)
    rw [World.size_alloc, World.size_alloc] at this
    exact this
  have h1 : MapAt Try.prog 72 (((w.alloc (.map #[] 0)).alloc (.map #[] 0)).alloc (.cells #[.map (some w.heap.size), .map (some (w.heap.size + 1))] 68)) w.heap.size [] := ((MapAt.made Try.prog 72 w).alloc _).alloc _
  have h2 : MapAt Try.prog 72 (((w.alloc (.map #[] 0)).alloc (.map #[] 0)).alloc (.cells #[.map (some w.heap.size), .map (some (w.heap.size + 1))] 68)) (w.heap.size + 1) [] := by
    have := (MapAt.made Try.prog 72 (w.alloc (.map #[] 0))).alloc (.cells #[.map (some w.heap.size), .map (some (w.heap.size + 1))] 68)
    rw [World.size_alloc] at this
    exact this
  exact ⟨w.heap.size + 1 + 1, w.heap.size, w.heap.size + 1, rfl, ⟨hr, h1, h2, by simp, by simp, by simp, by omega⟩, (((Upto.refl NoS w).alloc _).alloc _).alloc _, by omega, by omega, by omega⟩

/-- May a wish be? -/
def Ws.may (W : Ws) : Prop := 1 ≤ W.fr ∧ W.fr ≤ W.tu
theorem may_any (w : World) (W : Ws) (q : Bool) (hq : decide (1 ≤ W.fr ∧ W.fr ≤ W.tu) = q) :
    Calls Try.prog 31 #[wv W] w (Told (.bool q) w) := by
  have hR0 := new_ws w W
  obtain ⟨d0, d1, d2, d3, d4, d5, d6⟩ := ws_cells hR0
  subst hq
  by_cases g1 : 1 ≤ W.fr
  · have b1 : decide ((1 : Int) ≤ W.fr) = true := decide_eq_true (by omega)
    by_cases g2 : W.fr ≤ W.tu
    · rw [decide_eq_true ⟨g1, g2⟩]
      have b2 : decide ((W.fr : Int) ≤ W.tu) = true := decide_eq_true (by omega)
      go_enter Try.func31, Try.ntmps31
      go_wp2
      go_ret
      exact ⟨rfl, (Upto.refl _ _).alloc _⟩
    · rw [decide_eq_false (fun h => g2 h.2)]
      have b2 : decide ((W.fr : Int) ≤ W.tu) = false := decide_eq_false (by omega)
      go_enter Try.func31, Try.ntmps31
      go_wp2
      go_ret
      exact ⟨rfl, (Upto.refl _ _).alloc _⟩
  · rw [decide_eq_false (fun h => g1 h.1)]
    have b1 : decide ((1 : Int) ≤ W.fr) = false := decide_eq_false (by omega)
    go_enter Try.func31, Try.ntmps31
    go_wp2
    go_ret
    exact ⟨rfl, (Upto.refl _ _).alloc _⟩

theorem Count_any (w : World) (x rb ob : Nat) (T : List (Rw × Nat)) (h : PsAt w x rb ob T) :
    Calls Try.prog 28 #[.pointer (some ⟨x, 0, none⟩)] w fun e w' => e = .returned (.int .i64 (T.length : Nat)) ∧ w = w' := by
  have c0 := h.c0
  have hl := h.rows.len Try.underlying65 3
  simp only [List.length_map] at hl
  go_enter Try.func28, Try.ntmps28
  go_wp2_with (go_at_call 29; refine (none_no _ _ _ _ _ h).mono ?_; rintro e w' ⟨rfl, rfl⟩)
  go_ret
  exact ⟨rfl, rfl⟩

theorem PsAt.fO_of_mem {w : World} {x rb ob : Nat} {T : List (Rw × Nat)} (h : PsAt w x rb ob T) {r : Rw × Nat} (hr : r ∈ T) : fO T r.1.p r.1.oa r.1.ob = some r := by
  cases hf : fO T r.1.p r.1.oa r.1.ob with
  | none => exact absurd rfl (PsAt.fO_none hf _ (List.mem_map.2 ⟨r, hr, rfl⟩))
  | some s =>
    obtain ⟨hs, e1, e2, e3⟩ := PsAt.fO_mem hf
    obtain ⟨i, hi, rfl⟩ := List.getElem_of_mem hr
    obtain ⟨j, hj, rfl⟩ := List.getElem_of_mem hs
    by_cases e : i = j
    · subst e; rfl
    · exfalso
      have hn := List.pairwise_map.1 h.rows.nodup
      rcases Nat.lt_or_gt_of_ne e with hlt | hlt
      · exact List.pairwise_iff_getElem.1 hn i j hi hj hlt (by simp [e1, e2, e3])
      · exact List.pairwise_iff_getElem.1 hn j i hj hi hlt (by simp [e1, e2, e3])

theorem new_r7 (w : World) (r : Rw) : (w.alloc (.cells #[.int .u8 (r.p : Nat), .int .u32 (r.oa : Nat), .int .u16 (r.ob : Nat), .int .u32 (r.ia : Nat), .int .u16 (r.ib : Nat), .int .i64 (r.live : Nat), .int .i64 (r.held : Nat)] 42)).rowIs w.heap.size 42 7 (rwF r) :=
  World.rowIs_alloc w #[.int .u8 (r.p : Nat), .int .u32 (r.oa : Nat), .int .u16 (r.ob : Nat), .int .u32 (r.ia : Nat), .int .u16 (r.ib : Nat), .int .i64 (r.live : Nat), .int .i64 (r.held : Nat)] 42 _ (fun i hi => by
    have : i < 7 := hi
    match i, this with
    | 0, _ => rfl | 1, _ => rfl | 2, _ => rfl | 3, _ => rfl | 4, _ => rfl | 5, _ => rfl | 6, _ => rfl)
set_option maxHeartbeats 1000000 in
theorem Of_some (w : World) (x rb ob : Nat) (T : List (Rw × Nat)) (p a b : Nat) (r : Rw × Nat) (h : PsAt w x rb ob T) (hp : p < 256) (ha : a < 4294967296) (hb : b < 65536) (hf : fI T p a b = some r) :
    Calls Try.prog 25 #[.pointer (some ⟨x, 0, none⟩), .int .u8 p, ev a b] w (Told (.tuple #[rwV r.1, .bool true]) w) := by
  obtain ⟨hr, rfl, rfl, rfl⟩ := PsAt.fI_mem hf
  have hO := h.fO_of_mem hr
  have hok := h.ok r hr
  have h2 := (h.alloc (.cells #[.int .u32 r.1.ia, .int .u16 r.1.ib] 26)).alloc (.cells zrw 42)
  have h3 := h2.alloc (.cells #[.int .u32 0, .int .u16 0] 26)
  have h4 := h2.alloc (.cells #[.int .u32 r.1.oa, .int .u16 r.1.ob] 26)
  have hn := new_rw (w.alloc (.cells #[.int .u32 r.1.ia, .int .u16 r.1.ib] 26))
  rw [World.size_alloc] at hn
  have hu4 : Upto NoS _ _ := ((Upto.refl NoS ((w.alloc (.cells #[.int .u32 r.1.ia, .int .u16 r.1.ib] 26)).alloc (.cells zrw 42))).alloc (.cells #[.int .u32 r.1.oa, .int .u16 r.1.ob] 26))
  have hN := hu4.row hn (fun h => h.elim)
  obtain ⟨e0, e1, e2, e3, e4, e5, e6⟩ := rw_cells hN
  have f0 := hN.frozen 0
  have f1 := hN.frozen 1
  have f2 := hN.frozen 2
  have f3 := hN.frozen 3
  have f4 := hN.frozen 4
  have f5 := hN.frozen 5
  have f6 := hN.frozen 6
  have c1 := h2.c1
  have c3 := h3.c1
  have c4 := h4.c0
  have l1 := h2.drew.lookI hp ha hb hf
  have l2 := h3.drew.lookI hp ha hb hf
  have l3 := h4.drew.lookO hok.p hok.oa hok.ob hO
  have l4 := h4.drew.drew.lookO hok.p hok.oa hok.ob hO
  obtain ⟨d0, d1, d2, d3, d4, d5, d6⟩ := rw_cells (h4.blk _ hr)
  go_enter Try.func25, Try.ntmps25
  go_wp2_with (go_at_call 29; refine (none_no _ _ _ _ _ h2).mono ?_; rintro e w' ⟨rfl, rfl⟩)
  go_region
  all_goals
    go_wp2
    go_region
    all_goals
      go_wp2
      have hF := (new_r7 (w.alloc (.cells #[.int .u32 r.1.ia, .int .u16 r.1.ib] 26)) r.1).alloc (.cells #[.int .u32 r.1.oa, .int .u16 r.1.ob] 26)
      rw [World.size_alloc] at hF
      refine bodyPost_ret (res_rw (k := w.heap.size + 1) (r := r.1) Try.results25 _ rfl hF) rfl ⟨rfl, ?_⟩
      exact ((((Upto.refl _ _).alloc _).alloc _).alloc _).drew.drew
end Go.Proofs.Ytfiblchdfacdiaa
