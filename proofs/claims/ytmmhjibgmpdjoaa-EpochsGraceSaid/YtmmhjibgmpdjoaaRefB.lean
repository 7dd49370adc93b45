/- The reference's Ripe, walked. -/
import Derived.Test.YtmmhjibgmpdjoaaRefA
namespace Go.Proofs.Ytmmhjibgmpdjoaa
open Go Go.RowKit Go.Deep Md

theorem Try.info63 : (Try.prog.info? 63).map (fun i => (i.zero, i.size, i.bytes)) = some (some (.agg #[.int .i64 0, .int .i64 0]), 2, 16) := by kernel_rfl
theorem own_base {w : World} {base base' e size n : Nat} {v : Value} {xs : List Value} (h : w.ownsRow base e size v n xs) (hb : base' ≤ base) : w.ownsRow base' e size v n xs := by
  refine ⟨h.1, ?_⟩
  rcases h.2 with hn | ⟨g, cap, cur, hv, h1, rest⟩
  · exact .inl hn
  · exact .inr ⟨g, cap, cur, hv, by omega, rest⟩
/-- What is not ripe among the first k. -/
def leftK (now : Nat) (H : List (Nat × Nat)) (k : Nat) : List (Nat × Nat) := (H.take k).filter fun p => !overB now p
theorem leftK_step (now : Nat) (H : List (Nat × Nat)) (k : Nat) (h : k < H.length) : leftK now H (k + 1) = leftK now H k ++ (if ovAt now H k then [] else [(p1 H k, p2 H k)]) := by
  unfold leftK
  rw [filter_step now H k h, pair_at H k h]
theorem leftK_le (now : Nat) (H : List (Nat × Nat)) (k : Nat) : (leftK now H k).length ≤ k := by
  unfold leftK
  exact Nat.le_trans (List.length_filter_le _ _) (by simp; omega)
theorem leftK_all (E : Ep) : leftK E.now E.wt E.wt.length = E.wt.filter fun p => !overB E.now p := by unfold leftK; rw [List.take_length]
theorem RefAt.setT {w : World} {y s cs : Nat} {vl vl' : Value} {E : Ep} {H : List (Nat × Nat)} (h : w.rowIs y 54 3 (refF s E.ws.length cs vl E.now)) (hs : w.ownsRow (y + 1) 3 1 (.slice (some ⟨s, 0, none⟩) E.ws.length cs) E.ws.length (icl E.ws)) (ho : w.ownsRow (y + 1) 63 2 vl' H.length (pcl H)) (hok : E.Ok)
    (hm : H.length ≤ 1000000) (hH : ∀ j, j < H.length → (H.getD j (0, 0)).1 < 256 ∧ (H.getD j (0, 0)).2 ≤ E.now) (h0 : H.length = 0 → vl' = .slice none 0 0) :
    RefAt (w.setCell ⟨y, 2, none⟩ vl') y s cs vl' { E with wt := H } := by
  have hu : Upto (· = y) w (w.setCell ⟨y, 2, none⟩ vl') := (Upto.refl (fun k => k = y) w).setB rfl _
  refine ⟨(h.set 2 _).congr fun i hi => ?_, hu.own hs (fun k hk e => by have := (hs.lt k hk).1; have e' : k = y := e; omega), hu.own ho (fun k hk e => by have := (ho.lt k hk).1; have e' : k = y := e; omega), ⟨hok.now, hok.pos, hok.len, hok.ws, hm, hH⟩, h0⟩
  match i, hi with
  | 0, _ => rfl
  | 1, _ => rfl
  | 2, _ => rfl
def RRipeP (y s cs : Nat) (vl : Value) (E : Ep) (w : World) (e : Ending) (w' : World) : Prop :=
  ∃ l vl', e = .returned l ∧ w'.ownsRow w.heap.size 3 1 l (ripe E).length (ncl (ripe E)) ∧ RefAt w' y s cs vl' (ripeSt E) ∧ Upto (RefS y s vl) w w' ∧ ∀ k, vl'.ownBlock = some k → vl.ownBlock = some k ∨ w.heap.size ≤ k

set_option maxRecDepth 100000 in
set_option maxHeartbeats 1000000 in
theorem Ripe_r (w : World) (y s cs : Nat) (vl : Value) (E : Ep) (h : RefAt w y s cs vl E) :
    Calls Try.prog 19 #[.pointer (some ⟨y, 0, none⟩)] w (RRipeP y s cs vl E w) := by
  obtain ⟨i0, hi, hz0, hz1, hz2⟩ := info_parts Try.info3
  obtain ⟨i6, hi6, hy0, hy1, hy2⟩ := info_parts Try.info63
  obtain ⟨a, c, hvt, ha⟩ := own_slice h.wt
  subst hvt
  have hok := h.ok
  have hmany := h.ok.many
  have hnow := h.ok.now
  have hyl := h.lt
  have HW := Lib.hid h.ok.wt
  have HA := Lib.hid ha
  clear ha
  go_enter Try.func19, Try.ntmps19
  go_wp2_with fail
  go_loopw [3, 4, 5] (fun o l i wr => ∃ k : Nat, k ≤ E.wt.length ∧ i = .int .i64 k ∧ wr.ownsRow w.heap.size 3 1 o (ripeK E.now E.wt k).length (ncl (ripeK E.now E.wt k)) ∧ wr.ownsRow w.heap.size 63 2 l (leftK E.now E.wt k).length (pcl (leftK E.now E.wt k)) ∧ Hid ((leftK E.now E.wt k).length = 0 → l = .slice none 0 0) ∧ Upto NoS w wr)
    (fun _ _ i _ => E.wt.length - (intOf i).toNat)
  case atStart => exact ⟨0, by omega, rfl, World.ownsRow_nil _ _ _ _, World.ownsRow_nil _ _ _ _, Lib.hid (fun _ => rfl), Upto.refl _ _⟩
  case round =>
    obtain ⟨k, hk, rfl, ho, hl, hl0, hu⟩ := hrel
    have hR := h.upto hu
    have hc0 := hR.c0
    have hc2 := hR.c2
    by_cases hlt : k < E.wt.length
    · obtain ⟨q, hq⟩ := HA.out (by omega)
      subst hq
      obtain ⟨s0, s1⟩ := own_pcl hR.wt k hlt
      have hb2 : p2 E.wt k ≤ 1000000 := Nat.le_trans (HW.out k hlt).2 hnow
      have hwr : IntKind.i64.wrap ((p2 E.wt k : Int) + 2) = (p2 E.wt k : Int) + 2 := IntWalk.i64_in _ (by omega)
      have z0 : (0 : Int) ≤ (k : Int) := by omega
      have z1 : (k : Int) < (E.wt.length : Int) := by omega
      have hrl := ripeK_le E.now E.wt k
      have hll := leftK_le E.now E.wt k
      have hst := Lib.hid (ripeK_step E.now E.wt k hlt)
      have hst2 := Lib.hid (leftK_step E.now E.wt k hlt)
      have hsz := hu.size
      have hn1 : ∀ q, u3.ownBlock = some q → w.heap.size ≤ q := fun q hq => (ho.lt q hq).1
      have hn2 : ∀ q, u4.ownBlock = some q → w.heap.size ≤ q := fun q hq => (hl.lt q hq).1
      have HN1 := Lib.hid hn1
      have HN2 := Lib.hid hn2
      clear hn1 hn2
      cases hov : ovAt E.now E.wt k
      · have hd : decide ((p2 E.wt k : Int) + 2 ≤ (E.now : Int)) = false := by have := of_decide_eq_false hov; exact decide_eq_false (by omega)
        have HV := Lib.hid hov
        clear hov
        go_wp2_with fail
        go_quiet (fail)
        have hlq := (Upto.refl NoS wr).drewN nq |>.own hl (fun _ _ => id)
        go_wp2_with (at_builtin; refine wpList_append_own _ rfl (.tmp 40) (.tmp 48) 52 rfl w.heap.size 63 i6 (.agg #[.int .i64 0, .int .i64 0]) 2 16 Try.underlying52 hi6 hy0 hy1 hy2 rfl (by decide) _ _ _ rfl (hlq.alloc _) ⟨wr.heap.size, 0, none⟩ 1 1 [.int .i64 (p1 E.wt k : Nat), .int .i64 (p2 E.wt k : Nat)] rfl rfl (pair_new _ _ _ _) (pair_one _ _ _ _) (by unfold maxLen; omega) (by omega) (by simp; omega) ?_; intro v1 w4 hown4 hg4 _)
        go_roundw
        case rel =>
          refine ⟨k + 1, by omega, by go_num, ?_, by rw [hst2.out, HV.out]; simpa [pcl_snoc] using hown4, Lib.hid (fun hz => by rw [hst2.out, HV.out] at hz; simp at hz), ((hu.drewN nq).alloc _).grown hg4 (fun q hq hlt => by have := HN2.out q hq; omega)⟩
          rw [hst.out, HV.out]
          have := (Upto.of_grown hg4).own (((Upto.refl NoS wr).drewN nq |>.own ho (fun _ _ => id)).alloc (.cells #[.int .i64 (p1 E.wt k : Nat), .int .i64 (p2 E.wt k : Nat)] 63)) (fun q hq e => own_apart ho hl (by decide) hq e)
          simpa using this
        case measure => simp [intOf]; omega
      · have hd : decide ((p2 E.wt k : Int) + 2 ≤ (E.now : Int)) = true := by have := of_decide_eq_true hov; exact decide_eq_true (by omega)
        have HV := Lib.hid hov
        clear hov
        go_wp2_with fail
        go_quiet (fail)
        have hoq := (Upto.refl NoS wr).drewN nq |>.own ho (fun _ _ => id)
        go_wp2_with (at_builtin; refine wpList_append_own _ rfl (.tmp 29) (.tmp 38) 36 rfl w.heap.size 3 i0 (.int .i64 0) 1 8 Try.underlying36 hi hz0 hz1 hz2 rfl (by decide) _ _ _ rfl (hoq.alloc _) ⟨wr.heap.size, 0, none⟩ 1 1 [.int .i64 (p1 E.wt k : Nat)] rfl rfl (one_new _ _ _) (one_one _ _) (by unfold maxLen; omega) (by omega) (by simp; omega) ?_; intro v1 w4 hown4 hg4 _)
        go_roundw
        case rel =>
          refine ⟨k + 1, by omega, by go_num, by rw [hst.out, HV.out]; simpa [ncl_snoc] using hown4, ?_, Lib.hid (fun hz => by rw [hst2.out, HV.out] at hz; exact hl0.out (by simpa using hz)), ((hu.drewN nq).alloc _).grown hg4 (fun q hq hlt => by have := HN1.out q hq; omega)⟩
          rw [hst2.out, HV.out]
          have := (Upto.of_grown hg4).own (((Upto.refl NoS wr).drewN nq |>.own hl (fun _ _ => id)).alloc (.cells #[.int .i64 (p1 E.wt k : Nat)] 3)) (fun q hq e => own_apart hl ho (by decide) hq e)
          simpa using this
        case measure => simp [intOf]; omega
    · obtain rfl : E.wt.length = k := by omega
      rw [ripeK_all] at ho
      rw [leftK_all] at hl hl0
      obtain ⟨a', c', hv', _⟩ := own_slice hl
      subst hv'
      have hf2 := hR.row.frozen 2
      have HO := Lib.hid hok
      clear hok
      go_wp2
      go_ret
      have hys := h.ys
      have uy : Upto (· = y) wr (wr.setCell ⟨y, 2, none⟩ (.slice a' (E.wt.filter fun p => !overB E.now p).length c')) := (Upto.refl (fun k => k = y) wr).setB rfl _
      refine ⟨u3, _, rfl, uy.own ho (fun q hq e => by have := (ho.lt q hq).1; have e' : q = y := e; omega), ?_, (hu.mono (fun _ _ h => h.elim)).setB (.inl rfl) _, fun q hq => .inr (hl.lt q hq).1⟩
      exact RefAt.setT hR.row hR.said (own_base hl (by omega)) HO.out (Nat.le_trans (List.length_filter_le _ _) hmany) (left_all HO.out) hl0.out
end Go.Proofs.Ytmmhjibgmpdjoaa
