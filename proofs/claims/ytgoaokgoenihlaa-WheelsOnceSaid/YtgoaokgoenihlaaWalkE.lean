/- A wheel's take, walked. -/
import Derived.Test.YtgoaokgoenihlaaWalkD
import Derived.Deep.RegionLaw
namespace Go.Proofs.Ytgoaokgoenihlaa
open Go Go.RowKit Go.Deep Go.Maps

/-- What take leaves: what it tells, in a row of its own; one place has turned. -/
def TakePost (x g m q now : Nat) (vs : Nat → Value) (n last : Nat) (pf : Nat → List Tm) (L : List (Value × Value)) (w : World) (e : Ending) (w' : World) : Prop :=
  ∃ v nv, e = .returned v ∧ w'.ownsRow w.heap.size 69 3 v ((pf q).filter fun t => decide (t.d ≤ now)).length (tcl ((pf q).filter fun t => decide (t.d ≤ now))) ∧
    WhMid w' x g m (fun i => if i = q then nv else vs i) n last (fun k => if k = q then (pf q).filter (fun t => !decide (t.d ≤ now)) else pf k) L ∧
    Upto (fun k => k = g ∨ (vs q).ownBlock = some k) w w' ∧ nv.ownBlock = (vs q).ownBlock ∧ (((pf q).filter fun t => decide (t.d ≤ now)) = [] → v = .slice none 0 0)

theorem own_base {w : World} {B B' e s n : Nat} {v : Value} {xs : List Value} (h : w.ownsRow B e s v n xs) (hB : B' ≤ B) : w.ownsRow B' e s v n xs := by
  refine ⟨h.1, ?_⟩
  rcases h.2 with h | ⟨g, cap, cur, hv, hb, r⟩
  · exact .inl h
  · exact .inr ⟨g, cap, cur, hv, Nat.le_trans hB hb, r⟩

set_option maxRecDepth 100000 in
set_option maxHeartbeats 2000000 in
theorem take_mid (w : World) (x g m q now : Nat) (vs : Nat → Value) (n last : Nat) (pf : Nat → List Tm) (L : List (Value × Value)) (h : WhMid w x g m vs n last pf L) (hq : q < n) (hl : (pf q).length ≤ 1000000) :
    Calls Try.prog 26 #[.pointer (some ⟨x, 0, none⟩), .int .i64 (q : Nat), .int .i64 (now : Nat)] w (TakePost x g m q now vs n last pf L w) := by
  have hgx := h.gx
  have hmx := h.mx
  have hxl := h.lt
  have HGM := Lib.hid h.gm
  obtain ⟨W, hW⟩ : ∃ W, W = (w.alloc (.cells #[.int .i64 (now : Nat)] 3)).alloc (.cells #[.slice none 0 0] 67) := ⟨_, rfl⟩
  have n0 : W.cell? ⟨w.heap.size, 0, none⟩ = some (.int .i64 (now : Nat)) := by rw [hW]; exact new_21 w _ _ 3 67 0 _ rfl
  have n1 : W.rowIs (w.heap.size + 1) 67 1 (fun _ => .slice none 0 0) := by
    rw [hW]
    have := World.rowIs_alloc (w.alloc (.cells #[.int .i64 (now : Nat)] 3)) #[.slice none 0 0] 67 (fun _ => .slice none 0 0) (fun i hi => by
      have h0 : i = 0 := by simpa using hi
      subst h0; rfl)
    simpa using this
  have hWs : W.heap.size = w.heap.size + 2 := by rw [hW]; simp
  have h4 : WhMid W x g m vs n last pf L := by rw [hW]; exact (h.alloc _).alloc _
  have hU4 : Upto NoS w W := by rw [hW]; exact ((Upto.refl _ _).alloc _).alloc _
  have hI : TakeI (w.heap.size + 2) w.heap.size (w.heap.size + 1) now [] (fun k => k = w.heap.size + 1 ∨ (Value.slice none 0 0).ownBlock = some k) W.drew :=
    ⟨.slice none 0 0, n0, n1, ⟨rfl, .inl ⟨rfl, rfl⟩⟩, by omega, by omega, by omega, by show _ ≤ W.heap.size; omega, fun _ => rfl, rfl⟩
  have hD := DeleteT W.drew (x + 1) w.heap.size (vs q) (pf q) w.heap.size (w.heap.size + 1) (TakeI (w.heap.size + 2) w.heap.size (w.heap.size + 1) now) (fun t => decide (t.d ≤ now)) _
    (fun q' hq' => takeKeeps _ _ _ _ _ _ (by have := h.vlt hq hq'; omega) (by have := h.vlt hq hq'; omega) (by have := h.vlt hq hq'; omega) (by omega))
    (takeKeeps0 _ _ _ _) hI (h4.drew.each q hq) hl (fun q' hq' => (h.vlt hq hq').2)
    (fun T F w' t _ hT hI' => closure33 _ _ _ _ T F w' t hI' (by omega))
  obtain ⟨ad, cp, hvq, _⟩ := own_slice (h.each q hq)
  have k0 := h4.c0
  have k1 := h4.pc hq
  have HV := Lib.hid hvq
  have HH := Lib.hid h4
  have HU4 := Lib.hid hU4
  have HWS := Lib.hid hWs
  rw [hvq] at k1
  rw [hvq] at hD
  have HD := Lib.hid hD
  have HEND : Hid (∀ w5 v' vt, w5.ownsRow (x + 1) 69 3 v' ((pf q).filter fun t => !decide (t.d ≤ now)).length (tcl ((pf q).filter fun t => !decide (t.d ≤ now))) → v'.ownBlock = (Value.slice ad (pf q).length cp).ownBlock → w5.rowIs (w.heap.size + 1) 67 1 (fun _ => vt) →
      w5.ownsRow (w.heap.size + 2) 69 3 vt ((pf q).filter fun t => decide (t.d ≤ now)).length (tcl ((pf q).filter fun t => decide (t.d ≤ now))) →
      Upto (fun k => (Value.slice ad (pf q).length cp).ownBlock = some k ∨ (k = w.heap.size + 1 ∨ (Value.slice none 0 0).ownBlock = some k)) W.drew w5 →
      (((pf q).filter fun t => decide (t.d ≤ now)) = [] → vt = .slice none 0 0) → TakePost x g m q now vs n last pf L w (.returned vt) ((w5.setCell ⟨g, q, none⟩ v').setCell ⟨w.heap.size + 1, 0, none⟩ vt)) := Lib.hid (by
    intro w5 v' vt ho5 hob5 t2 t3 hu5 t8
    have U5 : Upto (fun k => k = g ∨ (vs q).ownBlock = some k) w w5 := (hU4.drew.mono (fun _ _ h => h.elim)).trans' hu5 (fun k hk hS => by
      rcases hS with e | e | e
      · right; rw [hvq]; exact e
      · omega
      · simp [Value.ownBlock] at e)
    have U6 := (U5.setB (b := g) (o := q) (.inl rfl) v').setNew (b := w.heap.size + 1) (o := 0) (by omega) vt
    have hgS : ¬ ((Value.slice ad (pf q).length cp).ownBlock = some g ∨ (g = w.heap.size + 1 ∨ (Value.slice none 0 0).ownBlock = some g)) := by
      rintro (e | e | e)
      · have := h.vlt hq (by rw [hvq]; exact e); omega
      · omega
      · simp [Value.ownBlock] at e
    have hpl5 := hu5.row h4.drew.pl hgS
    have hnc : ¬ g = w.heap.size + 1 := by omega
    have keepG : ∀ (B s : Nat) (e : TypeId) (v : Value) (k : Nat) (xs : List Value), w5.ownsRow B e s v k xs → ¬ v.ownBlock = some g → ¬ v.ownBlock = some (w.heap.size + 1) → ((w5.setCell ⟨g, q, none⟩ v').setCell ⟨w.heap.size + 1, 0, none⟩ vt).ownsRow B e s v k xs := fun B s e v k xs ho h1 h2 =>
      ((Upto.refl (fun k => k = w.heap.size + 1) _).setB rfl _).own (((Upto.refl (fun k => k = g) _).setB rfl _).own ho (fun j hj e => h1 (by rw [hj]; rw [show j = g from e]))) (fun j hj e => h2 (by rw [hj]; rw [show j = w.heap.size + 1 from e]))
    refine ⟨vt, v', rfl, ?_, ?_, U6, hob5.trans (by rw [hvq]), t8⟩
    · refine own_base (keepG _ _ _ _ _ _ t3 (fun e => ?_) (fun e => ?_)) (Nat.le_add_right _ 2)
      · have := (t3.lt g e).1; omega
      · have := (t3.lt _ e).1; omega
    · refine h.turned hq U6 (fun k hk => .inr hk) ?_ (h.mp.upto U6 ?_) ?_ (fun k hk => .inl (by rw [hvq, ← hob5]; exact hk)) (fun k hk => if_neg hk)
      · exact (((Upto.refl (fun k => k = w.heap.size + 1) _).setB rfl _).row (hpl5.set q v') hnc).congr (fun i _ => rfl)
      · rintro (e | e)
        · exact HGM.out e
        · have := h.vlt hq e; omega
      · simp only [if_true]
        refine keepG _ _ _ _ _ _ ho5 (fun e => ?_) (fun e => ?_)
        · rw [hob5, ← hvq] at e; have := h.vlt hq e; omega
        · rw [hob5, ← hvq] at e; have := h.vlt hq e; omega)
  clear h hvq hD h4 hU4 hWs hI n0 n1
  go_enter Try.func26, Try.ntmps26
  go_wp2_with fail
  rw [← hW]
  clear hW
  have fg := HH.out.drew.pl.frozen q
  have ng : ¬ (Value.slice ad (pf q).length cp).ownBlock = some g := fun e => by have := HH.out.vlt hq (by rw [HV.out]; exact e); omega
  have hgS : ¬ ((Value.slice ad (pf q).length cp).ownBlock = some g ∨ (g = w.heap.size + 1 ∨ (Value.slice none 0 0).ownBlock = some g)) := by
    rintro (e | e | e)
    · exact ng e
    · omega
    · simp [Value.ownBlock] at e
  have hxS : ¬ ((Value.slice ad (pf q).length cp).ownBlock = some x ∨ (x = w.heap.size + 1 ∨ (Value.slice none 0 0).ownBlock = some x)) := by
    rintro (e | e | e)
    · have := HH.out.vlt hq (by rw [HV.out]; exact e); omega
    · omega
    · simp [Value.ownBlock] at e
  have hnc : ¬ w.heap.size + 1 = g := by omega
  have hgl : g < W.drew.heap.size := by have := HH.out.lt; show g < W.heap.size; omega
  go_region_law (first | ((go_simp; go_at_call 29; refine HD.out.mono ?_; rintro e w5 ⟨v', rfl, hown5, hob5, ⟨F5, ⟨vt, t1, t2, t3, t4, t5, t6, t7, t8, rfl⟩, hf5⟩, hu5⟩; obtain ⟨a5, c5, rfl, _⟩ := own_slice hown5; obtain ⟨a6, c6, rfl, _⟩ := own_slice t3; have z0 := hu5.keep (w := W.drew) k0 hxS; have z1 := hu5.keep (w := W.drew) k1 hgS; have zf := (hu5.frozen (p := ⟨g, q, none⟩) hgl hgS).trans fg; have y2 := ((Upto.refl (fun k => k = g) w5).setB (b := g) (o := q) rfl (.slice a5 ((pf q).filter fun t => !decide (t.d ≤ now)).length c5)).row t2 hnc; have y0 := y2.cell (i := 0) (by omega); have yf := y2.frozen 0; have yz : ((w5.setCell ⟨g, q, none⟩ (.slice a5 ((pf q).filter fun t => !decide (t.d ≤ now)).length c5)).setCell ⟨w.heap.size + 1, 0, none⟩ (.slice a6 ((pf q).filter fun t => decide (t.d ≤ now)).length c6)).cell? ⟨w.heap.size + 1, 0, none⟩ = some (.slice a6 ((pf q).filter fun t => decide (t.d ≤ now)).length c6) := (y2.set 0 _).cell (i := 0) (by omega))) | fail)
  all_goals go_wp2
  all_goals refine bodyPost_ret (v := .slice a6 ((pf q).filter fun t => decide (t.d ≤ now)).length c6) (by simp [results, Try.results26, go_sem, yz]) rfl ?_
  all_goals exact HEND.out _ _ _ hown5 hob5 t2 t3 hu5 t8
end Go.Proofs.Ytgoaokgoenihlaa
