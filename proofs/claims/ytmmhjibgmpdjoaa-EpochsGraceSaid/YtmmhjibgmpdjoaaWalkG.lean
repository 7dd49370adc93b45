/- Epochs' Ripe, walked. -/
import Derived.Test.YtmmhjibgmpdjoaaWalkE
import Derived.Test.YtmmhjibgmpdjoaaWalkF
namespace Go.Proofs.Ytmmhjibgmpdjoaa
open Go Go.RowKit Go.Deep Md

/-- Numbers, as cells. -/
def ncl (l : List Nat) : List Value := l.map fun n => .int .i64 (n : Nat)
theorem ncl_snoc (l : List Nat) (n : Nat) : ncl (l ++ [n]) = ncl l ++ [.int .i64 (n : Nat)] := by simp [ncl]
/-- What is ripe among the first k. -/
def ripeK (now : Nat) (H : List (Nat × Nat)) (k : Nat) : List Nat := ((H.take k).filter (overB now)).map Prod.fst
theorem ripeK_step (now : Nat) (H : List (Nat × Nat)) (k : Nat) (h : k < H.length) : ripeK now H (k + 1) = ripeK now H k ++ (if ovAt now H k then [p1 H k] else []) := by
  unfold ripeK
  rw [List.take_succ_eq_append_getElem h, List.filter_append, List.map_append, ov_at now H k h]
  congr 1
  cases hb : overB now H[k] <;> simp [hb, p1, h]
theorem ripeK_le (now : Nat) (H : List (Nat × Nat)) (k : Nat) : (ripeK now H k).length ≤ k := by
  unfold ripeK
  rw [List.length_map]
  exact Nat.le_trans (List.length_filter_le _ _) (by simp; omega)
theorem ripeK_all (E : Ep) : ripeK E.now E.wt E.wt.length = ripe E := by unfold ripeK ripe; rw [List.take_length]
/-- What Ripe leaves: the list, and fewer that wait. -/
def RipePost (x g : Nat) (vt : Value) (E : Ep) (w : World) (e : Ending) (w' : World) : Prop :=
  ∃ l vt', e = .returned l ∧ w'.ownsRow w.heap.size 3 1 l (ripe E).length (ncl (ripe E)) ∧ EpAt w' x g vt' (ripeSt E) ∧ Upto (EpS x g vt) w w' ∧ ∀ k, vt'.ownBlock = some k → vt.ownBlock = some k ∨ w.heap.size ≤ k

theorem left_all {E : Ep} (h : E.Ok) : ∀ j, j < (E.wt.filter fun p => !overB E.now p).length → ((E.wt.filter fun p => !overB E.now p).getD j (0, 0)).1 < 256 ∧ ((E.wt.filter fun p => !overB E.now p).getD j (0, 0)).2 ≤ E.now := by
  intro j hj
  have hm : (E.wt.filter fun p => !overB E.now p)[j] ∈ E.wt := (List.mem_filter.1 (List.getElem_mem hj)).1
  obtain ⟨i, hi, he⟩ := List.getElem_of_mem hm
  have := h.wt i hi
  have e1 : (E.wt.filter fun p => !overB E.now p).getD j (0, 0) = E.wt.getD i (0, 0) := by simp [hj, hi, he]
  rw [e1]; exact this

set_option maxRecDepth 100000 in
set_option maxHeartbeats 1000000 in
theorem Ripe_any (w : World) (x g : Nat) (vt : Value) (E : Ep) (h : EpAt w x g vt E) :
    Calls Try.prog 18 #[.pointer (some ⟨x, 0, none⟩)] w (RipePost x g vt E w) := by
  obtain ⟨i0, hi, hz0, hz1, hz2⟩ := info_parts Try.info3
  obtain ⟨a, c, hvt, ha⟩ := own_slice h.wt
  subst hvt
  have hok := h.ok
  have hmany := h.ok.many
  have hxl := h.lt
  have HW := Lib.hid h.ok.wt
  have HA := Lib.hid ha
  have c2 := h.c2
  clear ha
  go_enter Try.func18, Try.ntmps18
  go_wp2_with (go_at_call 33; refine (none_no _ _ _ _ _ h).mono ?_; rintro e w' ⟨rfl, rfl⟩)
  go_loopw [3, 13] (fun l i wr => ∃ k : Nat, k ≤ E.wt.length ∧ i = .int .i64 k ∧ wr.ownsRow w.heap.size 3 1 l (ripeK E.now E.wt k).length (ncl (ripeK E.now E.wt k)) ∧ Upto NoS w wr)
    (fun _ i _ => E.wt.length - (intOf i).toNat)
  case atStart => exact ⟨0, by omega, rfl, World.ownsRow_nil _ _ _ _, Upto.refl _ _⟩
  case round =>
    obtain ⟨k, hk, rfl, hown, hu⟩ := hrel
    have hE := h.upto hu
    by_cases hlt : k < E.wt.length
    · obtain ⟨q, hq⟩ := HA.out (by omega)
      subst hq
      obtain ⟨s0, s1⟩ := own_pcl hE.wt k hlt
      have hc := hE.c0
      have hb2 : p2 E.wt k ≤ 1000000 := Nat.le_trans (HW.out k hlt).2 hok.now
      have hAl := hown.alloc (.cells #[.int .i64 (p1 E.wt k : Nat), .int .i64 (p2 E.wt k : Nat)] 59)
      have z0 := new_1 wr #[.int .i64 (p1 E.wt k : Nat), .int .i64 (p2 E.wt k : Nat)] 59 0 (.int .i64 (p1 E.wt k : Nat)) rfl
      have z1 := new_1 wr #[.int .i64 (p1 E.wt k : Nat), .int .i64 (p2 E.wt k : Nat)] 59 1 (.int .i64 (p2 E.wt k : Nat)) rfl
      have hrl := ripeK_le E.now E.wt k
      have hst := Lib.hid (ripeK_step E.now E.wt k hlt)
      have hsz := hu.size
      clear hE
      cases hov : ovAt E.now E.wt k
      · have HV := Lib.hid hov
        clear hov
        go_wp2_with (go_at_call 36; refine (over_any _ x E.now _ _ false (keep_alloc hc _) hok.now hb2 HV.out).mono ?_; rintro e w2 ⟨rfl, hu2⟩)
        go_roundw
        case rel => exact ⟨k + 1, by omega, by go_num, by rw [hst.out, HV.out]; simpa using hu2.own hAl (fun _ _ => id), (hu.alloc _).trans hu2⟩
        case measure => simp [intOf]; omega
      · have HV := Lib.hid hov
        clear hov
        go_wp2_with (first
          | (go_at_call 36; refine (over_any _ x E.now _ _ true (keep_alloc hc _) hok.now hb2 HV.out).mono ?_; rintro e w2 ⟨rfl, hu2⟩; have y0 := hu2.keep z0 id; have hs2 := hu2.size; simp only [World.size_alloc] at hs2)
          | (at_builtin; refine wpList_append_own _ rfl (.tmp 20) (.tmp 23) 36 rfl w.heap.size 3 i0 (.int .i64 0) 1 8 Try.underlying36 hi hz0 hz1 hz2 rfl (by decide) _ _ _ rfl ((hu2.own hAl (fun _ _ => id)).alloc _) ⟨w2.heap.size, 0, none⟩ 1 1 [.int .i64 (p1 E.wt k : Nat)] rfl rfl (one_new _ _ _) (one_one _ _) (by unfold maxLen; omega) (by omega) (by simp; omega) ?_; intro v1 w4 hown4 hg4 _))
        have hn1 : ∀ q, u3.ownBlock = some q → w.heap.size ≤ q := fun q hq => (hown.lt q hq).1
        go_roundw
        case rel => exact ⟨k + 1, by omega, by go_num, by rw [hst.out, HV.out]; simpa [ncl_snoc] using hown4, (((hu.alloc _).trans hu2).alloc _).grown hg4 (fun q hq hlt => by have := hn1 q hq; omega)⟩
        case measure => simp [intOf]; omega
    · obtain rfl : E.wt.length = k := by omega
      rw [ripeK_all] at hown
      have hE2 := hE.c2
      have hf2 := hE.row.frozen 2
      have nx : ¬ (Value.slice a E.wt.length c).ownBlock = some x := fun e => by have := hE.vt_ne e; omega
      go_wp2_with (go_at_call 37; refine (Delete_any _ (x + 1) _ E.wt x E.now hE.wt hmany hE.c0 hok.now (fun j hj => Nat.le_trans (HW.out j hj).2 hok.now) (by omega)).mono ?_; rintro e w5 ⟨v', rfl, hov, hvb, hu5⟩; obtain ⟨a', c', hv', _⟩ := own_slice hov; subst hv'; have d2 := hu5.keep hE2 nx; have f2 := (hu5.frozen (p := ⟨x, 2, none⟩) hE.lt nx).trans hf2)
      go_ret
      have hgx := h.gx
      have ng : ¬ (Value.slice a E.wt.length c).ownBlock = some g := fun e => by have := hE.vt_ne e; omega
      have no : ∀ q, (Value.slice a E.wt.length c).ownBlock = some q → q < w.heap.size := fun q hq => (h.vt_ne hq).2
      have hl5 : w5.ownsRow w.heap.size 3 1 u3 (ripe E).length (ncl (ripe E)) := hu5.own hown (fun q hq e => by have := (hown.lt q hq).1; have := no q e; omega)
      have ux : Upto (· = x) w5 (w5.setCell ⟨x, 2, none⟩ (.slice a' (E.wt.filter fun p => !overB E.now p).length c')) := (Upto.refl (fun k => k = x) w5).setB rfl _
      refine ⟨u3, _, rfl, ux.own hl5 (fun q hq e => by have := (hown.lt q hq).1; omega), ?_, ?_, fun q hq => .inl (by rw [← hvb]; exact hq)⟩
      · exact EpAt.setT (hu5.row hE.row nx) (hu5.row hE.ws ng) hov hgx hok (Nat.le_trans (List.length_filter_le _ _) hmany) (left_all hok)
      · exact ((hu.mono (fun _ _ h => h.elim)).trans (hu5.mono (fun q _ hq => .inr (.inr hq)))).setB (.inl rfl) _
end Go.Proofs.Ytmmhjibgmpdjoaa
