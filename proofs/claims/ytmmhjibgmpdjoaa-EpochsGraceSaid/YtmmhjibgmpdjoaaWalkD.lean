/- Epochs' Defer, walked. -/
import Derived.Test.YtmmhjibgmpdjoaaWalkC
import Derived.Deep.RegionLaw
namespace Go.Proofs.Ytmmhjibgmpdjoaa
open Go Go.RowKit Go.Deep Md

theorem Try.info59 : (Try.prog.info? 59).map (fun i => (i.zero, i.size, i.bytes)) = some (some (.agg #[.int .i64 0, .int .i64 0]), 2, 16) := by kernel_rfl
/-- What a method leaves that may make a new row for what waits. -/
def EpNew (x g : Nat) (vt : Value) (E' : Ep) (w : World) (v : Value) (e : Ending) (w' : World) : Prop :=
  e = .returned v ∧ ∃ vt', EpAt w' x g vt' E' ∧ Upto (EpS x g vt) w w' ∧ ∀ k, vt'.ownBlock = some k → vt.ownBlock = some k ∨ w.heap.size ≤ k
theorem has_at {H : List (Nat × Nat)} {s : Int} : (∃ j, j < H.length ∧ hsAt s H j = true) ↔ has H s = true := by
  unfold has
  rw [List.any_eq_true]
  constructor
  · rintro ⟨j, hj, hp⟩
    exact ⟨H[j], List.getElem_mem hj, by simpa [hsAt, p1, hj] using hp⟩
  · rintro ⟨p, hp, hb⟩
    obtain ⟨j, hj, rfl⟩ := List.getElem_of_mem hp
    exact ⟨j, hj, by simpa [hsAt, p1, hj] using hb⟩
theorem EpAt.setT {w : World} {x g : Nat} {vt vt' : Value} {E : Ep} {H : List (Nat × Nat)} (h : w.rowIs x 44 3 (epF g E.ws.length vt E.now)) (hw : w.rowIs g 3 E.ws.length (fun i => .int .i64 (wAt E.ws i))) (ho : w.ownsRow (x + 1) 59 2 vt' H.length (pcl H)) (gx : g < x) (hok : E.Ok)
    (hm : H.length ≤ 1000000) (hH : ∀ j, j < H.length → (H.getD j (0, 0)).1 < 256 ∧ (H.getD j (0, 0)).2 ≤ E.now) :
    EpAt (w.setCell ⟨x, 2, none⟩ vt') x g vt' { E with wt := H } := by
  have hu : Upto (· = x) w (w.setCell ⟨x, 2, none⟩ vt') := (Upto.refl (fun k => k = x) w).setB rfl _
  refine ⟨(h.set 2 _).congr fun i hi => ?_, hu.row hw (by omega), hu.own ho (fun k hk e => by have := (ho.lt k hk).1; omega), gx, ⟨hok.now, hok.pos, hok.len, hok.ws, hm, hH⟩⟩
  match i, hi with
  | 0, _ => rfl
  | 1, _ => rfl
  | 2, _ => rfl

set_option maxRecDepth 100000 in
set_option maxHeartbeats 4000000 in
theorem Defer_any (w : World) (x g : Nat) (vt : Value) (E : Ep) (s : Int) (h : EpAt w x g vt E) (_h1 : -9223372036854775808 ≤ s) (_h2 : s ≤ 9223372036854775807) (hm : E.wt.length < 1000000) :
    Calls Try.prog 20 #[.pointer (some ⟨x, 0, none⟩), .int .i64 s] w (EpNew x g vt (defSt E s) w (.int .i64 (defE E s))) := by
  have hB := h.alloc (.cells #[.int .i64 s] 3)
  have b0 := new_1 w #[.int .i64 s] 3 0 (.int .i64 s) rfl
  have hU : Upto (EpS x g vt) w (w.alloc (.cells #[.int .i64 s] 3)) := (Upto.refl _ w).alloc _
  have hxl := h.lt
  by_cases g0 : s < 0 ∨ 256 ≤ s
  · have hE : defE E s = 2 := if_pos g0
    rw [show defSt E s = E by unfold defSt; rw [hE]; rfl, hE]
    rcases g0 with g1 | g1
    · clear hE
      go_enter Try.func20, Try.ntmps20
      go_wp2_with (go_at_call 33; refine (none_no _ _ _ _ _ hB).mono ?_; rintro e w' ⟨rfl, rfl⟩)
      go_ret
      exact ⟨rfl, vt, hB, hU, fun k hk => .inl hk⟩
    · clear hE
      have g2 : ¬ s < 0 := by omega
      go_enter Try.func20, Try.ntmps20
      go_wp2_with (go_at_call 33; refine (none_no _ _ _ _ _ hB).mono ?_; rintro e w' ⟨rfl, rfl⟩)
      go_ret
      exact ⟨rfl, vt, hB, hU, fun k hk => .inl hk⟩
  · have g1 : ¬ s < 0 := by omega
    have g2 : ¬ 256 ≤ s := by omega
    obtain ⟨n, rfl⟩ := Int.eq_ofNat_of_zero_le (by omega : 0 ≤ s)
    cases hq : has E.wt n
    · have hE : defE E n = 0 := by unfold defE; rw [if_neg g0, hq]; rfl
      rw [show defSt E n = { E with wt := E.wt ++ [((n : Int).toNat, E.now)] } by unfold defSt; rw [hE]; rfl, hE]
      simp only [Int.toNat_natCast]
      obtain ⟨i0, hi, hz0, hz1, hz2⟩ := info_parts Try.info59
      have hiff := has_at (H := E.wt) (s := (n : Int))
      rw [hq] at hiff
      have HI := Lib.hid hiff
      have c2 := hB.c2
      have hgx := h.gx
      clear g0 hE hq hiff _h1 _h2
      go_enter Try.func20, Try.ntmps20
      go_wp2_with (first
        | (go_at_call 33; refine (none_no _ _ _ _ _ hB).mono ?_; rintro e w' ⟨rfl, rfl⟩)
        | (go_at_call 38; refine (ContCl_any _ _ _ _ _ _ false hB.wt hB.ok.many b0 HI.out).mono ?_; rintro e w1 ⟨rfl, hu1⟩))
      have hB1 := hB.upto hu1
      have d0 := hB1.c0
      have d2 := hB1.c2
      have e0 := hu1.keep b0 id
      have hfr := hB1.row.frozen 2
      have hU1 := hU.trans (hu1.mono (fun _ _ h => h.elim))
      have hsz := hu1.size
      simp only [World.size_alloc] at hsz
      clear hu1 c2 b0 hB hU HI
      have k2 := keep_alloc d2 (.cells #[.int .i64 (n : Nat), .int .i64 (E.now : Nat)] 59)
      have kf := (hB1.alloc (.cells #[.int .i64 (n : Nat), .int .i64 (E.now : Nat)] 59)).row.frozen 2
      have hxl1 := hB1.lt
      have nx : ¬ vt.ownBlock = some x := fun e => by have := hB1.vt_ne e; omega
      go_region_law (first | ((refine step_append_lies _ (by rfl) _ _ _ (by rfl) (x + 1) 59 i0 _ 2 16 Try.underlying42 hi hz0 hz1 hz2 rfl (by omega) vt E.wt.length (pcl E.wt) (by rfl) ((hB1.wt.alloc _).drew) ⟨w1.heap.size, 0, none⟩ 1 1 [.int .i64 (n : Nat), .int .i64 (E.now : Nat)] (by rfl) (by rfl) (World.news_of_block (cs := #[.int .i64 (n : Nat), .int .i64 (E.now : Nat)]) (t := 59) (fr := (0, 0)) (heap_alloc_new w1 _)) (pair_one _ _ _ _) (by omega) (by unfold maxLen; omega) (by omega) (by simp; omega) (w1.heap.size + 1) (by simp) ?_; intro gg cap1 w5 hown1 hgrow hat hlt; have z2 := (Upto.of_grown hgrow).keep k2 nx; have zf := ((Upto.of_grown hgrow).frozen (p := ⟨x, 2, none⟩) (by simp; omega) nx).trans kf)))
      all_goals go_wp2
      all_goals go_ret
      all_goals
        have ng : ¬ vt.ownBlock = some g := fun e => by have := hB1.vt_ne e; omega
        have hug := Upto.of_grown hgrow
        have hB2 := (hB1.alloc (.cells #[.int .i64 (n : Nat), .int .i64 (E.now : Nat)] 59)).drew
        have R5 := hug.row hB2.row nx
        have W5 := hug.row hB2.ws ng
        have hlen : (E.wt ++ [(n, E.now)]).length = E.wt.length + 1 := by simp
        have hat' : ∀ k, (Value.slice (some ⟨gg, 0, none⟩) (E.wt.length + 1) cap1).ownBlock = some k → vt.ownBlock = some k ∨ w.heap.size ≤ k := fun k hk => by
          have hk' : gg = k := by simpa [Value.ownBlock] using hk
          subst hk'
          rcases hat with h1 | h1
          · exact .inl h1
          · right; omega
        refine ⟨rfl, .slice (some ⟨gg, 0, none⟩) (E.wt.length + 1) cap1, ?_, ?_, hat'⟩
        · refine EpAt.setT R5 W5 (H := E.wt ++ [(n, E.now)]) (by rw [pcl_snoc, hlen]; exact hown1) hgx hB1.ok (by rw [hlen]; omega) (fun j hj => ?_)
          rw [hlen] at hj
          by_cases ej : j = E.wt.length
          · subst ej; simp; omega
          · have := hB1.ok.wt j (by omega)
            simp only [List.getD] at this ⊢
            rw [List.getElem?_append_left (by omega)]
            exact this
        · exact (((hU1.alloc (.cells #[.int .i64 (n : Nat), .int .i64 (E.now : Nat)] 59)).drew).trans' hug (fun i _ hi => .inr (.inr hi))).setB (.inl rfl) _
    · have hE : defE E n = 7 := by unfold defE; rw [if_neg g0, hq]; rfl
      rw [show defSt E n = E by unfold defSt; rw [hE]; rfl, hE]
      have hiff := has_at.2 hq
      have HI := Lib.hid hiff
      have c2 := hB.c2
      clear g0 hE hq hiff _h1 _h2
      go_enter Try.func20, Try.ntmps20
      go_wp2_with (first
        | (go_at_call 33; refine (none_no _ _ _ _ _ hB).mono ?_; rintro e w' ⟨rfl, rfl⟩)
        | (go_at_call 38; refine (ContCl_yes _ _ _ _ _ _ hB.wt hB.ok.many b0 HI.out).mono ?_; rintro e w1 ⟨rfl, hu1⟩))
      go_ret
      exact ⟨rfl, vt, hB.upto hu1, hU.trans (hu1.mono (fun _ _ h => h.elim)), fun k hk => .inl hk⟩
end Go.Proofs.Ytmmhjibgmpdjoaa
