/- Ports' Take, walked. -/
import Derived.Test.YtfiblchdfacdiaaWalkB
namespace Go.Proofs.Ytfiblchdfacdiaa
open Go Go.RowKit Go.Deep Go.Maps

/-- What an endpoint's cells and a number's cell give back. -/
theorem res_ee {fn : Func} {p u : Tmp} (h : fn.results = #[.cell p 26, .cell u 37]) (tmps : Array Value) {w : World} {k m : Nat} {a b : Nat} {e : Int} (hp : tmps.getD p undef = .pointer (some ⟨k, 0, none⟩)) (hu : tmps.getD u undef = .pointer (some ⟨m, 0, none⟩))
    (h0 : w.cell? ⟨k, 0, none⟩ = some (.int .u32 (a : Nat))) (h1 : w.cell? ⟨k, 1, none⟩ = some (.int .u16 (b : Nat))) (h2 : w.cell? ⟨m, 0, none⟩ = some (.int .i64 e)) :
    (results fn tmps).run Try.prog w = .ok (.tuple #[ev a b, .int .i64 e]) w := by
  have hp' : tmps[p]?.getD undef = .pointer (some ⟨k, 0, none⟩) := by simpa using hp
  have hu' : tmps[u]?.getD undef = .pointer (some ⟨m, 0, none⟩) := by simpa using hu
  simp [results, h, go_sem, hp', hu', h0, h1, h2]

/-- Take's variables: the receiver, the wish, the two results. -/
structure TkF (w : World) (x B1 B2 B3 B4 : Nat) (W : Ws) : Prop where
  b : w.rowIs B1 31 1 (fun _ => .pointer (some ⟨x, 0, none⟩))
  wr : w.rowIs B2 28 7 (wF W)
  r : w.rowIs B3 26 2 (fun i => if i = 0 then .int .u32 0 else .int .u16 0)
  e : w.rowIs B4 37 1 (fun _ => .int .i64 0)
namespace TkF
variable {w w' : World} {x B1 B2 B3 B4 : Nat} {W : Ws}
theorem upto {S : Nat → Prop} (h : TkF w x B1 B2 B3 B4 W) (hu : Upto S w w') (hS : ∀ k, S k → k ≠ B1 ∧ k ≠ B2 ∧ k ≠ B3 ∧ k ≠ B4) : TkF w' x B1 B2 B3 B4 W :=
  ⟨hu.row h.b (fun hs => (hS _ hs).1 rfl), hu.row h.wr (fun hs => (hS _ hs).2.1 rfl), hu.row h.r (fun hs => (hS _ hs).2.2.1 rfl), hu.row h.e (fun hs => (hS _ hs).2.2.2 rfl)⟩
theorem no (h : TkF w x B1 B2 B3 B4 W) (hu : Upto NoS w w') : TkF w' x B1 B2 B3 B4 W := h.upto hu (fun _ h => h.elim)
theorem facts (h : TkF w x B1 B2 B3 B4 W) : w.cell? ⟨B1, 0, none⟩ = some (.pointer (some ⟨x, 0, none⟩)) ∧ w.cell? ⟨B3, 0, none⟩ = some (.int .u32 0) ∧ w.cell? ⟨B3, 1, none⟩ = some (.int .u16 0) ∧ w.cell? ⟨B4, 0, none⟩ = some (.int .i64 0) ∧
    w.frozen? ⟨B3, 0, none⟩ = false ∧ w.frozen? ⟨B3, 1, none⟩ = false ∧ w.frozen? ⟨B4, 0, none⟩ = false :=
  ⟨h.b.cell (i := 0) (by omega), h.r.cell (i := 0) (by omega), h.r.cell (i := 1) (by omega), h.e.cell (i := 0) (by omega), h.r.frozen 0, h.r.frozen 1, h.e.frozen 0⟩
theorem fin (h : TkF w x B1 B2 B3 B4 W) (hne : B3 ≠ B4) (a b : Nat) (e : Int) :
    (((w.setCell ⟨B3, 0, none⟩ (.int .u32 (a : Nat))).setCell ⟨B3, 1, none⟩ (.int .u16 (b : Nat))).setCell ⟨B4, 0, none⟩ (.int .i64 e)).cell? ⟨B3, 0, none⟩ = some (.int .u32 (a : Nat)) ∧
    (((w.setCell ⟨B3, 0, none⟩ (.int .u32 (a : Nat))).setCell ⟨B3, 1, none⟩ (.int .u16 (b : Nat))).setCell ⟨B4, 0, none⟩ (.int .i64 e)).cell? ⟨B3, 1, none⟩ = some (.int .u16 (b : Nat)) ∧
    (((w.setCell ⟨B3, 0, none⟩ (.int .u32 (a : Nat))).setCell ⟨B3, 1, none⟩ (.int .u16 (b : Nat))).setCell ⟨B4, 0, none⟩ (.int .i64 e)).cell? ⟨B4, 0, none⟩ = some (.int .i64 e) := by
  have hr := (h.r.set 0 (.int .u32 (a : Nat))).set 1 (.int .u16 (b : Nat))
  have hu : Upto (fun k => k = B3) w ((w.setCell ⟨B3, 0, none⟩ (.int .u32 (a : Nat))).setCell ⟨B3, 1, none⟩ (.int .u16 (b : Nat))) := ((Upto.refl (fun k => k = B3) w).setB (b := B3) rfl _).setB (b := B3) rfl _
  have he := hu.row h.e (fun e => hne e.symm)
  have hu2 : Upto (fun k => k = B4) _ (((w.setCell ⟨B3, 0, none⟩ (.int .u32 (a : Nat))).setCell ⟨B3, 1, none⟩ (.int .u16 (b : Nat))).setCell ⟨B4, 0, none⟩ (.int .i64 e)) := (Upto.refl (fun k => k = B4) _).setB (b := B4) rfl _
  have hr2 := hu2.row hr hne
  exact ⟨hr2.cell (i := 0) (by omega), hr2.cell (i := 1) (by omega), (he.set 0 _).cell (i := 0) (by omega)⟩
end TkF
theorem fin_upto {S : Nat → Prop} {w w' : World} {B3 B4 : Nat} (hu : Upto S w w') (h3 : w.heap.size ≤ B3) (h4 : w.heap.size ≤ B4) (u v z : Value) : Upto S w (((w'.setCell ⟨B3, 0, none⟩ u).setCell ⟨B3, 1, none⟩ v).setCell ⟨B4, 0, none⟩ z) :=
  ((hu.setNew h3 _).setNew h3 _).setNew h4 _

/-- A row that changes, its keys not. -/
def updT (T : List (Rw × Nat)) (k : Nat) (f : Rw → Rw) : List (Rw × Nat) := T.map fun s => if s.2 = k then (f s.1, s.2) else s
structure KeepsKeys (f : Rw → Rw) : Prop where
  p : ∀ r, (f r).p = r.p
  oa : ∀ r, (f r).oa = r.oa
  ob : ∀ r, (f r).ob = r.ob
  ia : ∀ r, (f r).ia = r.ia
  ib : ∀ r, (f r).ib = r.ib
theorem updT_map {α : Type} (T : List (Rw × Nat)) (k : Nat) (f : Rw → Rw) (g : Rw × Nat → α) (hg : ∀ s, g (f s.1, s.2) = g s) : (updT T k f).map g = T.map g := by
  unfold updT
  rw [List.map_map]
  refine List.map_congr_left fun s _ => ?_
  simp only [Function.comp]
  split
  · exact hg s
  · rfl
theorem PsAt.blk_inj {w : World} {x rb ob : Nat} {T : List (Rw × Nat)} (h : PsAt w x rb ob T) {r s : Rw × Nat} (hr : r ∈ T) (hs : s ∈ T) (e : s.2 = r.2) : s = r := by
  obtain ⟨i, hi, rfl⟩ := List.getElem_of_mem hr
  obtain ⟨j, hj, rfl⟩ := List.getElem_of_mem hs
  have hn := h.nodup
  rw [List.Nodup, List.pairwise_map] at hn
  by_cases e1 : i = j
  · subst e1; rfl
  · exfalso
    rcases Nat.lt_or_gt_of_ne e1 with hlt | hlt
    · exact List.pairwise_iff_getElem.1 hn i j hi hj hlt e.symm
    · exact List.pairwise_iff_getElem.1 hn j i hj hi hlt e
theorem PsAt.upd {w w' : World} {x rb ob : Nat} {T : List (Rw × Nat)} (h : PsAt w x rb ob T) {r : Rw × Nat} (hr : r ∈ T) (f : Rw → Rw) (hf : KeepsKeys f) (hok : (f r.1).Ok) (hu : Upto (fun k => k = r.2) w w') (hrow : w'.rowIs r.2 42 7 (rwF (f r.1))) :
    PsAt w' x rb ob (updT T r.2 f) := by
  have hx : x ≠ r.2 := by
    rintro e
    obtain ⟨A, hA, _⟩ := h.row
    obtain ⟨B, hB, _⟩ := h.blk r hr
    rw [← e, hA] at hB
    simp at hB
  have hrb : rb ≠ r.2 := h.rows.ne_row (h.blk r hr)
  have hob : ob ≠ r.2 := h.of_.ne_row (h.blk r hr)
  refine ⟨hu.row h.row hx, ?_, ?_, fun s hs => ?_, ?_, fun s hs => ?_, h.ne⟩
  · have := h.rows.upto hu hrb
    rwa [show rowsL T = rowsL (updT T r.2 f) from (updT_map T r.2 f _ (fun s => by simp only [hf.p, hf.oa, hf.ob])).symm] at this
  · have := h.of_.upto hu hob
    rwa [show ofL T = ofL (updT T r.2 f) from (updT_map T r.2 f _ (fun s => by simp only [hf.p, hf.ia, hf.ib, hf.oa, hf.ob])).symm] at this
  · obtain ⟨s0, hs0, rfl⟩ := List.mem_map.1 hs
    by_cases e : s0.2 = r.2
    · rw [if_pos e, h.blk_inj hr hs0 e]; exact hrow
    · rw [if_neg e]; exact hu.row (h.blk s0 hs0) e
  · rw [updT_map T r.2 f (·.2) (fun s => rfl)]; exact h.nodup
  · obtain ⟨s0, hs0, rfl⟩ := List.mem_map.1 hs
    by_cases e : s0.2 = r.2
    · rw [if_pos e, h.blk_inj hr hs0 e]; exact hok
    · rw [if_neg e]; exact h.ok s0 hs0
theorem tk_new (w : World) (x : Nat) (W : Ws) : TkF ((((w.alloc (.cells #[.pointer (some ⟨x, 0, none⟩)] 31)).alloc (.cells (wcells W) 28)).alloc (.cells #[.int .u32 0, .int .u16 0] 26)).alloc (.cells #[.int .i64 0] 37)) x w.heap.size (w.heap.size + 1) (w.heap.size + 1 + 1) (w.heap.size + 1 + 1 + 1) W := by
  have h1 := World.rowIs_alloc w #[.pointer (some ⟨x, 0, none⟩)] 31 (fun _ => .pointer (some ⟨x, 0, none⟩)) (fun i hi => by
    have : i < 1 := hi
    match i, this with
    | 0, _ => rfl)
  have h2 := new_ws (w.alloc (.cells #[.pointer (some ⟨x, 0, none⟩)] 31)) W
  have h3 := World.rowIs_alloc ((w.alloc (.cells #[.pointer (some ⟨x, 0, none⟩)] 31)).alloc (.cells (wcells W) 28)) #[.int .u32 0, .int .u16 0] 26 (fun i => if i = 0 then .int .u32 0 else .int .u16 0) (fun i hi => by
    have : i < 2 := hi
    match i, this with
    | 0, _ => rfl | 1, _ => rfl)
  have h4 := World.rowIs_alloc (((w.alloc (.cells #[.pointer (some ⟨x, 0, none⟩)] 31)).alloc (.cells (wcells W) 28)).alloc (.cells #[.int .u32 0, .int .u16 0] 26)) #[.int .i64 0] 37 (fun _ => .int .i64 0) (fun i hi => by
    have : i < 1 := hi
    match i, this with
    | 0, _ => rfl)
  simp only [World.size_alloc] at h2 h3 h4
  exact ⟨((h1.alloc _).alloc _).alloc _, (h2.alloc _).alloc _, h3.alloc _, h4⟩

theorem Take_arg (w : World) (x rb ob : Nat) (T : List (Rw × Nat)) (W : Ws) (h : PsAt w x rb ob T) (hW : ¬ W.may) :
    Calls Try.prog 14 #[.pointer (some ⟨x, 0, none⟩), wv W] w (Told (.tuple #[ev 0 0, .int .i64 2]) w) := by
  have h4 := (((h.alloc (.cells #[.pointer (some ⟨x, 0, none⟩)] 31)).alloc (.cells (wcells W) 28)).alloc (.cells #[.int .u32 0, .int .u16 0] 26)).alloc (.cells #[.int .i64 0] 37)
  have hk := tk_new w x W
  have hu4 := (((Upto.refl NoS w).alloc (.cells #[.pointer (some ⟨x, 0, none⟩)] 31)).alloc (.cells (wcells W) 28)).alloc (.cells #[.int .u32 0, .int .u16 0] 26) |>.alloc (.cells #[.int .i64 0] 37)
  go_enter Try.func14, Try.ntmps14
  go_wp2_with (first
    | (go_at_call 29; refine (none_no _ _ _ _ _ h4).mono ?_; rintro e w' ⟨rfl, rfl⟩)
    | (go_at_call 31; refine (may_any _ W false (decide_eq_false hW)).mono ?_; rintro e w' ⟨rfl, hu⟩; replace hk := hk.no hu; obtain ⟨g1, g2, g3, g4, g5, g6, g7⟩ := hk.facts))
  obtain ⟨q1, q2, q3⟩ := hk.fin (by omega) 0 0 2
  exact bodyPost_ret (res_ee (a := 0) (b := 0) Try.results14 _ rfl rfl q1 q2 q3) rfl ⟨rfl, fin_upto (hu4.trans hu) (by omega) (by omega) _ _ _⟩
end Go.Proofs.Ytfiblchdfacdiaa
