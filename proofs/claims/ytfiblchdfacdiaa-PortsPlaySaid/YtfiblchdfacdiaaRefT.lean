/- The reference's list of the ports that are tried. -/
import Derived.Test.YtfiblchdfacdiaaTakeB
import Derived.Laws.BitsAllLaws
namespace Go.Proofs.Ytfiblchdfacdiaa
open Go Go.RowKit Go.Deep Go.Maps

/-- Numbers of sixteen bits, as cells. -/
def ucl (l : List Nat) : List Value := l.map fun n => .int .u16 (n : Nat)
theorem ucl_snoc (l : List Nat) (n : Nat) : ucl (l ++ [n]) = ucl l ++ [.int .u16 (n : Nat)] := by simp [ucl]
theorem ucl_cell {w : World} {base m c q : Nat} {R : List Nat} (h : w.ownsRow base 24 1 (.slice (some ⟨q, 0, none⟩) m c) m (ucl R)) (j : Nat) (hj : j < R.length) : w.cell? ⟨q, j, none⟩ = some (.int .u16 (R.getD j 0 : Nat)) := by
  have hc := h.cells (g := q) rfl j (.int .u16 (R.getD j 0 : Nat)) (by simp [ucl, hj])
  rw [Addr.add_lit, Nat.zero_add] at hc
  exact hc
theorem info24 : (Try.prog.info? 24).map (fun i => (i.zero, i.size, i.bytes)) = some (some (.int .u16 0), 1, 2) := by kernel_rfl
theorem new_wd (w : World) (W : Ws) : (w.alloc (.cells (wcells W) 34)).rowIs w.heap.size 34 7 (wF W) :=
  World.rowIs_alloc w (wcells W) 34 _ (fun i hi => by
    have : i < 7 := hi
    match i, this with
    | 0, _ => rfl | 1, _ => rfl | 2, _ => rfl | 3, _ => rfl | 4, _ => rfl | 5, _ => rfl | 6, _ => rfl)
theorem wd_cells {w : World} {k : Nat} {W : Ws} (hR : w.rowIs k 34 7 (wF W)) :
    w.cell? ⟨k, 0, none⟩ = some (.int .u8 (W.p : Nat)) ∧ w.cell? ⟨k, 1, none⟩ = some (.int .u32 (W.ia : Nat)) ∧ w.cell? ⟨k, 2, none⟩ = some (.int .u16 (W.ib : Nat)) ∧ w.cell? ⟨k, 3, none⟩ = some (.int .u32 (W.ip : Nat)) ∧
      w.cell? ⟨k, 4, none⟩ = some (.int .u16 (W.fr : Nat)) ∧ w.cell? ⟨k, 5, none⟩ = some (.int .u16 (W.tu : Nat)) ∧ w.cell? ⟨k, 6, none⟩ = some (.int .u16 (W.dr : Nat)) :=
  ⟨hR.cell (i := 0) (by omega), hR.cell (i := 1) (by omega), hR.cell (i := 2) (by omega), hR.cell (i := 3) (by omega), hR.cell (i := 4) (by omega), hR.cell (i := 5) (by omega), hR.cell (i := 6) (by omega)⟩
/-- The first port from the draw on. -/
def Ws.F (W : Ws) : Nat := W.fr + W.dr % W.n
theorem at_hi (W : Ws) (h2 : W.fr ≤ W.tu) {i : Nat} (hi : i < W.n) (h : W.tu < W.F + i) : (W.F : Int) + (i : Int) - (W.n : Int) = (W.at i : Nat) := by
  have hn : 0 < W.n := by unfold Ws.n; omega
  have hd : W.dr % W.n < W.n := Nat.mod_lt _ hn
  have e : (W.dr + i) % W.n = W.dr % W.n + i - W.n := by
    rw [Nat.add_mod, Nat.mod_eq_of_lt hi, Nat.mod_eq_sub_mod (by unfold Ws.F Ws.n at *; omega), Nat.mod_eq_of_lt (by omega)]
  have hge : W.n ≤ W.dr % W.n + i := by unfold Ws.F Ws.n at *; omega
  unfold Ws.at
  rw [e]
  unfold Ws.F
  omega
theorem at_lo (W : Ws) (h2 : W.fr ≤ W.tu) {i : Nat} (hi : i < W.n) (h : ¬ W.tu < W.F + i) : (W.F : Int) + (i : Int) = (W.at i : Nat) := by
  have e : (W.dr + i) % W.n = W.dr % W.n + i := by
    rw [Nat.add_mod, Nat.mod_eq_of_lt hi, Nat.mod_eq_of_lt (by unfold Ws.F Ws.n at *; omega)]
  unfold Ws.at
  rw [e]
  unfold Ws.F
  omega
theorem skip_eq (a b : Nat) (ha : a < 65536) (hb : b < 65536) : skipB a b = !(a % 2 == b % 2) := by
  have hx : a ^^^ b < 65536 := Nat.xor_lt_two_pow (n := 16) ha hb
  unfold skipB
  rw [u16_xor_nat a b ha hb, show (1 : Int) = ((1 : Nat) : Int) from rfl, u16_and_nat _ 1 hx (by omega), Nat.and_one_is_mod]
  have h := @Nat.xor_mod_two_eq_one a b
  have hm : (a ^^^ b) % 2 = 0 ∨ (a ^^^ b) % 2 = 1 := by omega
  rcases hm with hm | hm
  · rw [hm]
    have : a % 2 = b % 2 := by
      have h' : ¬ ¬ (a % 2 = 1 ↔ b % 2 = 1) := fun hn => by have := h.2 hn; omega
      have h'' := Classical.not_not.1 h'
      omega
    simp [this]
  · rw [hm]
    have h' := h.1 hm
    have : ¬ a % 2 = b % 2 := by omega
    simp [this]
theorem par_eq (a b : Nat) : (a % 2 == b % 2) = ((a : Int) % 2 == (b : Int) % 2) := by
  by_cases h : a % 2 = b % 2
  · have h2 : (a : Int) % 2 = (b : Int) % 2 := by omega
    simp [h, h2]
  · have h2 : ¬ (a : Int) % 2 = (b : Int) % 2 := by omega
    rw [beq_eq_false_iff_ne.2 h, beq_eq_false_iff_ne.2 h2]
theorem n_le (W : Ws) (h : W.Ok) : W.n ≤ 65536 := by have := h.tu; unfold Ws.n; omega
theorem part_le (W : Ws) (k i : Nat) : (W.part k i).length ≤ i := by
  unfold Ws.part
  refine Nat.le_trans (List.length_filter_le _ _) ?_
  simp
theorem done_le (W : Ws) (k : Nat) : (W.done k).length ≤ 1 + 2 * W.n := by
  unfold Ws.done Ws.own
  have h0 := part_le W 0 W.n
  have h1 := part_le W 1 W.n
  split <;> split <;> split <;> simp <;> omega

set_option maxRecDepth 100000 in
set_option maxHeartbeats 8000000 in
theorem Tried_any (w : World) (W : Ws) (hW : W.Ok) (h1 : 1 ≤ W.fr) (h2 : W.fr ≤ W.tu) :
    Calls Try.prog 12 #[wv W] w fun e w' => ∃ v, e = .returned v ∧ w'.ownsRow (w.heap.size + 1) 24 1 v W.tried.length (ucl W.tried) ∧ Upto NoS w w' := by
  obtain ⟨i0, hi0, hz0, hz1, hz2⟩ := info_parts info24
  have hR0 := new_wd w W
  have hU0 := (Upto.refl NoS w).alloc (.cells (wcells W) 34)
  obtain ⟨d0, d1, d2, d3, d4, d5, d6⟩ := wd_cells hR0
  have hnl := n_le W hW
  obtain ⟨o1, o2, o3, o4, o5, o6, o7⟩ := hW
  have eN : (W.tu : Int) - W.fr + 1 = (W.n : Int) := by unfold Ws.n; omega
  have wN : IntKind.i64.wrap ((W.tu : Int) - W.fr) = (W.tu : Int) - W.fr := IntWalk.i64_in _ (by omega)
  have wM : IntKind.i64.wrap (W.n : Int) = (W.n : Int) := IntWalk.i64_in _ (by omega)
  have hFl : W.F ≤ 200000 := by
    have : W.dr % W.n ≤ W.dr := Nat.mod_le _ _
    unfold Ws.F; omega
  have wF1 : (W.fr : Int) + (W.dr : Int) % (W.n : Int) = (W.F : Int) := by unfold Ws.F; push_cast; rfl
  have wF2 : IntKind.i64.wrap (W.F : Int) = (W.F : Int) := IntWalk.i64_in _ (by omega)
  by_cases hge : W.fr ≤ W.ib
  · have b1 : decide ((W.fr : Int) ≤ W.ib) = true := decide_eq_true (by omega)
    by_cases hle : W.ib ≤ W.tu
    · have b2 : decide ((W.ib : Int) ≤ W.tu) = true := decide_eq_true (by omega)
      have hO : W.own = [W.ib] := if_pos ⟨hge, hle⟩
      have hNil : (w.alloc (.cells (wcells W) 34)).ownsRow (w.heap.size + 1) 24 1 (.slice none 0 0) 0 [] := World.ownsRow_nil _ _ _ _
      have hOne := one_new (w.alloc (.cells (wcells W) 34)) (.int .u16 (W.ib : Nat)) 24
      simp only [World.size_alloc] at hOne
      have hR0c := hR0
      go_enter Try.func12, Try.ntmps12
      go_wp2_with (first | (at_builtin; refine wpList_append_own _ rfl (.tmp 23) (.tmp 27) 29 rfl (w.heap.size + 1) 24 i0 (.int .u16 0) 1 2 Try.underlying29 hi0 hz0 hz1 hz2 rfl (by decide) _ _ _ rfl (hNil.alloc _) ⟨w.heap.size + 1, 0, none⟩ 1 1 [.int .u16 (W.ib : Nat)] rfl rfl hOne (one_one _ _) (by unfold maxLen; omega) (by omega) (by simp) ?_; intro v1 w4 hown4 hg4 _; have hR4 := (Upto.of_grown hg4).row (hR0c.alloc _) (fun e => by cases e); obtain ⟨f0, f1, f2, f3, f4, f5, f6⟩ := wd_cells hR4))
      go_quiet (fail)
      have hO0 : (w4.drewN nq).ownsRow (w.heap.size + 1) 24 1 v1 (W.done 0).length (ucl (W.done 0)) := by
        have : w4.ownsRow (w.heap.size + 1) 24 1 v1 1 [.int .u16 (W.ib : Nat)] := by simpa using hown4
        simp only [Ws.done, hO]; exact this
      replace hU0 := (((hU0.alloc _).grown hg4 (fun q hq hlt => by cases hq))).drewN nq
      have hR0 : (w4.drewN nq).rowIs w.heap.size 34 7 (wF W) := hR4
      clear hR4 hR0c hown4 hg4 f0 f1 f2 f3 f4 f5 f6 hNil hOne
      go_wp2_with fail
      go_loopw [3, 6] (fun l t wr => ∃ k : Nat, k ≤ 2 ∧ t = .int .i64 k ∧ wr.ownsRow (w.heap.size + 1) 24 1 l (W.done k).length (ucl (W.done k)) ∧ wr.rowIs w.heap.size 34 7 (wF W) ∧ Upto NoS w wr) (fun _ t _ => 2 - (intOf t).toNat)
      case atStart => exact ⟨0, by omega, rfl, hO0, hR0, hU0⟩
      case round =>
        clear hO0 hR0 hU0
        obtain ⟨k, hk, rfl, hOk, hRk, hUk⟩ := hrel
        by_cases hk2 : k < 2
        · have hkk : k = 0 ∨ k = 1 := by omega
          rcases hkk with rfl | rfl
          · go_wp2_with fail
            go_loopw [3, 7] (fun l t wr => ∃ i : Nat, i ≤ W.n ∧ t = .int .i64 i ∧ wr.ownsRow (w.heap.size + 1) 24 1 l (W.done 0 ++ W.part 0 i).length (ucl (W.done 0 ++ W.part 0 i)) ∧ wr.rowIs w.heap.size 34 7 (wF W) ∧ Upto NoS w wr) (fun _ t _ => W.n - (intOf t).toNat)
            case atStart => exact ⟨0, by omega, rfl, by simpa [Ws.part] using hOk, hRk, hUk⟩
            case round =>
              clear hOk hRk hUk
              obtain ⟨i, hi, rfl, hOi, hRi, hUi⟩ := hrel
              obtain ⟨d0, d1, d2, d3, d4, d5, d6⟩ := wd_cells hRi
              have hUs := hUi.size
              have hRl := hRi.lt
              have hlen : (W.done 0 ++ W.part 0 i).length ≤ 200000 := by
                rw [List.length_append]
                have := done_le W 0; have := part_le W 0 i; omega
              by_cases hin : i < W.n
              · have hW1 : IntKind.i64.wrap ((W.F : Int) + (i : Int)) = (W.F : Int) + (i : Int) := IntWalk.i64_in _ (by omega)
                have hat := at_in W h2 i
                have hW3 : IntKind.u16.wrap (W.at i : Nat) = (W.at i : Nat) := IntWalk.u16_in _ (by omega)
                have hps := part_succ W 0 i
                have hQ := skip_eq (W.at i) W.ib (by omega) o3
                by_cases hgt : W.tu < W.F + i
                · have b3 : decide ((W.tu : Int) < (W.F : Int) + (i : Int)) = true := decide_eq_true (by omega)
                  have eX := at_hi W h2 hin hgt
                  have hW2 : IntKind.i64.wrap (W.at i : Nat) = (W.at i : Nat) := IntWalk.i64_in _ (by omega)
                  cases hs0 : skipB (W.at i) W.ib
                  · have hs := Lib.hid hs0
                    rw [hs0] at hQ
                    have b4 : (((W.at i : Nat) : Int) % 2 == ((W.ib : Nat) : Int) % 2) = true := by rw [← par_eq]; simpa using hQ.symm
                    clear hQ hs0
                    have HS := Lib.hid (show W.part 0 (i + 1) = W.part 0 i ++ [W.at i] by rw [hps, show (decide ((0 : Nat) = 0) && skipB (W.at i) W.ib) = false by rw [hs.out]; rfl]; rfl)
                    clear hps
                    go_wp2_with (first | (at_builtin; refine wpList_append_own _ rfl (.tmp 78) (.tmp 81) 29 rfl (w.heap.size + 1) 24 i0 (.int .u16 0) 1 2 Try.underlying29 hi0 hz0 hz1 hz2 rfl (by decide) _ _ _ rfl (hOi.alloc _) ⟨wr.heap.size, 0, none⟩ 1 1 [.int .u16 (W.at i : Nat)] rfl rfl (one_new _ _ _) (one_one _ _) (by unfold maxLen; omega) (by omega) (by simp; omega) ?_; intro v1 w4 hown4 hg4 _))
                    have hn1 : ∀ q, u3.ownBlock = some q → w.heap.size + 1 ≤ q := fun q hq => (hOi.lt q hq).1
                    go_roundw
                    case rel => first | exact ⟨i + 1, by omega, by go_num, by rw [HS.out, ← List.append_assoc, ucl_snoc]; simpa [Nat.add_assoc] using hown4, (Upto.of_grown hg4).row (hRi.alloc _) (fun e => by have := hn1 _ e; omega), (hUi.alloc _).grown hg4 (fun q hq hlt => by have := hn1 q hq; omega)⟩ | ((repeat apply Exists.intro); refine ⟨?_, rfl⟩; exact ⟨i + 1, by omega, by go_num, by rw [HS.out, ← List.append_assoc, ucl_snoc]; simpa [Nat.add_assoc] using hown4, (Upto.of_grown hg4).row (hRi.alloc _) (fun e => by have := hn1 _ e; omega), (hUi.alloc _).grown hg4 (fun q hq hlt => by have := hn1 q hq; omega)⟩)
                    case measure => simp [intOf]; omega
                  · have hs := Lib.hid hs0
                    rw [hs0] at hQ
                    have b4 : (((W.at i : Nat) : Int) % 2 == ((W.ib : Nat) : Int) % 2) = false := by rw [← par_eq]; simpa using hQ.symm
                    clear hQ hs0
                    have HS := Lib.hid (show W.part 0 (i + 1) = W.part 0 i by rw [hps, show (decide ((0 : Nat) = 0) && skipB (W.at i) W.ib) = true by rw [hs.out]; rfl]; simp)
                    clear hps
                    go_wp2_with fail
                    go_roundw
                    case rel => first | exact ⟨i + 1, by omega, by go_num, by rw [HS.out]; exact hOi, hRi, hUi⟩ | ((repeat apply Exists.intro); refine ⟨?_, rfl⟩; exact ⟨i + 1, by omega, by go_num, by rw [HS.out]; exact hOi, hRi, hUi⟩)
                    case measure => simp [intOf]; omega
                · have eX := at_lo W h2 hin hgt
                  have b3 : decide ((W.tu : Int) < (W.at i : Nat)) = false := decide_eq_false (by omega)
                  have hW2 : IntKind.i64.wrap (W.at i : Nat) = (W.at i : Nat) := IntWalk.i64_in _ (by omega)
                  rw [eX] at hW1
                  cases hs0 : skipB (W.at i) W.ib
                  · have hs := Lib.hid hs0
                    rw [hs0] at hQ
                    have b4 : (((W.at i : Nat) : Int) % 2 == ((W.ib : Nat) : Int) % 2) = true := by rw [← par_eq]; simpa using hQ.symm
                    clear hQ hs0
                    have HS := Lib.hid (show W.part 0 (i + 1) = W.part 0 i ++ [W.at i] by rw [hps, show (decide ((0 : Nat) = 0) && skipB (W.at i) W.ib) = false by rw [hs.out]; rfl]; rfl)
                    clear hps
                    go_wp2_with (first | (at_builtin; refine wpList_append_own _ rfl (.tmp 78) (.tmp 81) 29 rfl (w.heap.size + 1) 24 i0 (.int .u16 0) 1 2 Try.underlying29 hi0 hz0 hz1 hz2 rfl (by decide) _ _ _ rfl (hOi.alloc _) ⟨wr.heap.size, 0, none⟩ 1 1 [.int .u16 (W.at i : Nat)] rfl rfl (one_new _ _ _) (one_one _ _) (by unfold maxLen; omega) (by omega) (by simp; omega) ?_; intro v1 w4 hown4 hg4 _))
                    have hn1 : ∀ q, u3.ownBlock = some q → w.heap.size + 1 ≤ q := fun q hq => (hOi.lt q hq).1
                    go_roundw
                    case rel => first | exact ⟨i + 1, by omega, by go_num, by rw [HS.out, ← List.append_assoc, ucl_snoc]; simpa [Nat.add_assoc] using hown4, (Upto.of_grown hg4).row (hRi.alloc _) (fun e => by have := hn1 _ e; omega), (hUi.alloc _).grown hg4 (fun q hq hlt => by have := hn1 q hq; omega)⟩ | ((repeat apply Exists.intro); refine ⟨?_, rfl⟩; exact ⟨i + 1, by omega, by go_num, by rw [HS.out, ← List.append_assoc, ucl_snoc]; simpa [Nat.add_assoc] using hown4, (Upto.of_grown hg4).row (hRi.alloc _) (fun e => by have := hn1 _ e; omega), (hUi.alloc _).grown hg4 (fun q hq hlt => by have := hn1 q hq; omega)⟩)
                    case measure => simp [intOf]; omega
                  · have hs := Lib.hid hs0
                    rw [hs0] at hQ
                    have b4 : (((W.at i : Nat) : Int) % 2 == ((W.ib : Nat) : Int) % 2) = false := by rw [← par_eq]; simpa using hQ.symm
                    clear hQ hs0
                    have HS := Lib.hid (show W.part 0 (i + 1) = W.part 0 i by rw [hps, show (decide ((0 : Nat) = 0) && skipB (W.at i) W.ib) = true by rw [hs.out]; rfl]; simp)
                    clear hps
                    go_wp2_with fail
                    go_roundw
                    case rel => first | exact ⟨i + 1, by omega, by go_num, by rw [HS.out]; exact hOi, hRi, hUi⟩ | ((repeat apply Exists.intro); refine ⟨?_, rfl⟩; exact ⟨i + 1, by omega, by go_num, by rw [HS.out]; exact hOi, hRi, hUi⟩)
                    case measure => simp [intOf]; omega
              · obtain rfl : i = W.n := by omega
                go_wp2_with fail
                go_roundw
                case rel => first | exact ⟨0 + 1, by omega, by go_num, by rw [done_succ W (by omega)]; exact hOi, hRi, hUi⟩ | ((repeat apply Exists.intro); refine ⟨?_, rfl⟩; exact ⟨0 + 1, by omega, by go_num, by rw [done_succ W (by omega)]; exact hOi, hRi, hUi⟩)
                case measure => simp [intOf]
          · go_wp2_with fail
            go_loopw [3, 7] (fun l t wr => ∃ i : Nat, i ≤ W.n ∧ t = .int .i64 i ∧ wr.ownsRow (w.heap.size + 1) 24 1 l (W.done 1 ++ W.part 1 i).length (ucl (W.done 1 ++ W.part 1 i)) ∧ wr.rowIs w.heap.size 34 7 (wF W) ∧ Upto NoS w wr) (fun _ t _ => W.n - (intOf t).toNat)
            case atStart => exact ⟨0, by omega, rfl, by simpa [Ws.part] using hOk, hRk, hUk⟩
            case round =>
              clear hOk hRk hUk
              obtain ⟨i, hi, rfl, hOi, hRi, hUi⟩ := hrel
              obtain ⟨d0, d1, d2, d3, d4, d5, d6⟩ := wd_cells hRi
              have hUs := hUi.size
              have hRl := hRi.lt
              have hlen : (W.done 1 ++ W.part 1 i).length ≤ 200000 := by
                rw [List.length_append]
                have := done_le W 1; have := part_le W 1 i; omega
              by_cases hin : i < W.n
              · have hW1 : IntKind.i64.wrap ((W.F : Int) + (i : Int)) = (W.F : Int) + (i : Int) := IntWalk.i64_in _ (by omega)
                have hat := at_in W h2 i
                have hW3 : IntKind.u16.wrap (W.at i : Nat) = (W.at i : Nat) := IntWalk.u16_in _ (by omega)
                have hps := part_succ W 1 i
                have hQ := skip_eq (W.at i) W.ib (by omega) o3
                by_cases hgt : W.tu < W.F + i
                · have b3 : decide ((W.tu : Int) < (W.F : Int) + (i : Int)) = true := decide_eq_true (by omega)
                  have eX := at_hi W h2 hin hgt
                  have hW2 : IntKind.i64.wrap (W.at i : Nat) = (W.at i : Nat) := IntWalk.i64_in _ (by omega)
                  clear hQ
                  have HS := Lib.hid (show W.part 1 (i + 1) = W.part 1 i ++ [W.at i] by rw [hps, show (decide ((1 : Nat) = 0) && skipB (W.at i) W.ib) = false from rfl]; rfl)
                  clear hps
                  go_wp2_with (first | (at_builtin; refine wpList_append_own _ rfl (.tmp 78) (.tmp 81) 29 rfl (w.heap.size + 1) 24 i0 (.int .u16 0) 1 2 Try.underlying29 hi0 hz0 hz1 hz2 rfl (by decide) _ _ _ rfl (hOi.alloc _) ⟨wr.heap.size, 0, none⟩ 1 1 [.int .u16 (W.at i : Nat)] rfl rfl (one_new _ _ _) (one_one _ _) (by unfold maxLen; omega) (by omega) (by simp; omega) ?_; intro v1 w4 hown4 hg4 _))
                  have hn1 : ∀ q, u3.ownBlock = some q → w.heap.size + 1 ≤ q := fun q hq => (hOi.lt q hq).1
                  go_roundw
                  case rel => first | exact ⟨i + 1, by omega, by go_num, by rw [HS.out, ← List.append_assoc, ucl_snoc]; simpa [Nat.add_assoc] using hown4, (Upto.of_grown hg4).row (hRi.alloc _) (fun e => by have := hn1 _ e; omega), (hUi.alloc _).grown hg4 (fun q hq hlt => by have := hn1 q hq; omega)⟩ | ((repeat apply Exists.intro); refine ⟨?_, rfl⟩; exact ⟨i + 1, by omega, by go_num, by rw [HS.out, ← List.append_assoc, ucl_snoc]; simpa [Nat.add_assoc] using hown4, (Upto.of_grown hg4).row (hRi.alloc _) (fun e => by have := hn1 _ e; omega), (hUi.alloc _).grown hg4 (fun q hq hlt => by have := hn1 q hq; omega)⟩)
                  case measure => simp [intOf]; omega
                · have eX := at_lo W h2 hin hgt
                  have b3 : decide ((W.tu : Int) < (W.at i : Nat)) = false := decide_eq_false (by omega)
                  have hW2 : IntKind.i64.wrap (W.at i : Nat) = (W.at i : Nat) := IntWalk.i64_in _ (by omega)
                  rw [eX] at hW1
                  clear hQ
                  have HS := Lib.hid (show W.part 1 (i + 1) = W.part 1 i ++ [W.at i] by rw [hps, show (decide ((1 : Nat) = 0) && skipB (W.at i) W.ib) = false from rfl]; rfl)
                  clear hps
                  go_wp2_with (first | (at_builtin; refine wpList_append_own _ rfl (.tmp 78) (.tmp 81) 29 rfl (w.heap.size + 1) 24 i0 (.int .u16 0) 1 2 Try.underlying29 hi0 hz0 hz1 hz2 rfl (by decide) _ _ _ rfl (hOi.alloc _) ⟨wr.heap.size, 0, none⟩ 1 1 [.int .u16 (W.at i : Nat)] rfl rfl (one_new _ _ _) (one_one _ _) (by unfold maxLen; omega) (by omega) (by simp; omega) ?_; intro v1 w4 hown4 hg4 _))
                  have hn1 : ∀ q, u3.ownBlock = some q → w.heap.size + 1 ≤ q := fun q hq => (hOi.lt q hq).1
                  go_roundw
                  case rel => first | exact ⟨i + 1, by omega, by go_num, by rw [HS.out, ← List.append_assoc, ucl_snoc]; simpa [Nat.add_assoc] using hown4, (Upto.of_grown hg4).row (hRi.alloc _) (fun e => by have := hn1 _ e; omega), (hUi.alloc _).grown hg4 (fun q hq hlt => by have := hn1 q hq; omega)⟩ | ((repeat apply Exists.intro); refine ⟨?_, rfl⟩; exact ⟨i + 1, by omega, by go_num, by rw [HS.out, ← List.append_assoc, ucl_snoc]; simpa [Nat.add_assoc] using hown4, (Upto.of_grown hg4).row (hRi.alloc _) (fun e => by have := hn1 _ e; omega), (hUi.alloc _).grown hg4 (fun q hq hlt => by have := hn1 q hq; omega)⟩)
                  case measure => simp [intOf]; omega
              · obtain rfl : i = W.n := by omega
                go_wp2_with fail
                go_roundw
                case rel => first | exact ⟨1 + 1, by omega, by go_num, by rw [done_succ W (by omega)]; exact hOi, hRi, hUi⟩ | ((repeat apply Exists.intro); refine ⟨?_, rfl⟩; exact ⟨1 + 1, by omega, by go_num, by rw [done_succ W (by omega)]; exact hOi, hRi, hUi⟩)
                case measure => simp [intOf]
        · obtain rfl : k = 2 := by omega
          go_wp2_with fail
          go_ret
          exact ⟨u3, rfl, hOk, hUk⟩
    · have hO : W.own = [] := if_neg (by omega)
      have b2 : decide ((W.ib : Int) ≤ W.tu) = false := decide_eq_false (by omega)
      go_enter Try.func12, Try.ntmps12
      go_wp2_with fail
      go_quiet (fail)
      have hO0 : ((w.alloc (.cells (wcells W) 34)).drewN nq).ownsRow (w.heap.size + 1) 24 1 (.slice none 0 0) (W.done 0).length (ucl (W.done 0)) := by simp only [Ws.done, hO]; exact World.ownsRow_nil _ _ _ _
      replace hU0 := hU0.drewN nq
      replace hR0 : ((w.alloc (.cells (wcells W) 34)).drewN nq).rowIs w.heap.size 34 7 (wF W) := hR0
      go_wp2_with fail
      go_loopw [3, 6] (fun l t wr => ∃ k : Nat, k ≤ 2 ∧ t = .int .i64 k ∧ wr.ownsRow (w.heap.size + 1) 24 1 l (W.done k).length (ucl (W.done k)) ∧ wr.rowIs w.heap.size 34 7 (wF W) ∧ Upto NoS w wr) (fun _ t _ => 2 - (intOf t).toNat)
      case atStart => exact ⟨0, by omega, rfl, hO0, hR0, hU0⟩
      case round =>
        clear hO0 hR0 hU0
        obtain ⟨k, hk, rfl, hOk, hRk, hUk⟩ := hrel
        by_cases hk2 : k < 2
        · have hkk : k = 0 ∨ k = 1 := by omega
          rcases hkk with rfl | rfl
          · go_wp2_with fail
            go_loopw [3, 7] (fun l t wr => ∃ i : Nat, i ≤ W.n ∧ t = .int .i64 i ∧ wr.ownsRow (w.heap.size + 1) 24 1 l (W.done 0 ++ W.part 0 i).length (ucl (W.done 0 ++ W.part 0 i)) ∧ wr.rowIs w.heap.size 34 7 (wF W) ∧ Upto NoS w wr) (fun _ t _ => W.n - (intOf t).toNat)
            case atStart => exact ⟨0, by omega, rfl, by simpa [Ws.part] using hOk, hRk, hUk⟩
            case round =>
              clear hOk hRk hUk
              obtain ⟨i, hi, rfl, hOi, hRi, hUi⟩ := hrel
              obtain ⟨d0, d1, d2, d3, d4, d5, d6⟩ := wd_cells hRi
              have hUs := hUi.size
              have hRl := hRi.lt
              have hlen : (W.done 0 ++ W.part 0 i).length ≤ 200000 := by
                rw [List.length_append]
                have := done_le W 0; have := part_le W 0 i; omega
              by_cases hin : i < W.n
              · have hW1 : IntKind.i64.wrap ((W.F : Int) + (i : Int)) = (W.F : Int) + (i : Int) := IntWalk.i64_in _ (by omega)
                have hat := at_in W h2 i
                have hW3 : IntKind.u16.wrap (W.at i : Nat) = (W.at i : Nat) := IntWalk.u16_in _ (by omega)
                have hps := part_succ W 0 i
                have hQ := skip_eq (W.at i) W.ib (by omega) o3
                by_cases hgt : W.tu < W.F + i
                · have b3 : decide ((W.tu : Int) < (W.F : Int) + (i : Int)) = true := decide_eq_true (by omega)
                  have eX := at_hi W h2 hin hgt
                  have hW2 : IntKind.i64.wrap (W.at i : Nat) = (W.at i : Nat) := IntWalk.i64_in _ (by omega)
                  cases hs0 : skipB (W.at i) W.ib
                  · have hs := Lib.hid hs0
                    rw [hs0] at hQ
                    have b4 : (((W.at i : Nat) : Int) % 2 == ((W.ib : Nat) : Int) % 2) = true := by rw [← par_eq]; simpa using hQ.symm
                    clear hQ hs0
                    have HS := Lib.hid (show W.part 0 (i + 1) = W.part 0 i ++ [W.at i] by rw [hps, show (decide ((0 : Nat) = 0) && skipB (W.at i) W.ib) = false by rw [hs.out]; rfl]; rfl)
                    clear hps
                    go_wp2_with (first | (at_builtin; refine wpList_append_own _ rfl (.tmp 78) (.tmp 81) 29 rfl (w.heap.size + 1) 24 i0 (.int .u16 0) 1 2 Try.underlying29 hi0 hz0 hz1 hz2 rfl (by decide) _ _ _ rfl (hOi.alloc _) ⟨wr.heap.size, 0, none⟩ 1 1 [.int .u16 (W.at i : Nat)] rfl rfl (one_new _ _ _) (one_one _ _) (by unfold maxLen; omega) (by omega) (by simp; omega) ?_; intro v1 w4 hown4 hg4 _))
                    have hn1 : ∀ q, u3.ownBlock = some q → w.heap.size + 1 ≤ q := fun q hq => (hOi.lt q hq).1
                    go_roundw
                    case rel => first | exact ⟨i + 1, by omega, by go_num, by rw [HS.out, ← List.append_assoc, ucl_snoc]; simpa [Nat.add_assoc] using hown4, (Upto.of_grown hg4).row (hRi.alloc _) (fun e => by have := hn1 _ e; omega), (hUi.alloc _).grown hg4 (fun q hq hlt => by have := hn1 q hq; omega)⟩ | ((repeat apply Exists.intro); refine ⟨?_, rfl⟩; exact ⟨i + 1, by omega, by go_num, by rw [HS.out, ← List.append_assoc, ucl_snoc]; simpa [Nat.add_assoc] using hown4, (Upto.of_grown hg4).row (hRi.alloc _) (fun e => by have := hn1 _ e; omega), (hUi.alloc _).grown hg4 (fun q hq hlt => by have := hn1 q hq; omega)⟩)
                    case measure => simp [intOf]; omega
                  · have hs := Lib.hid hs0
                    rw [hs0] at hQ
                    have b4 : (((W.at i : Nat) : Int) % 2 == ((W.ib : Nat) : Int) % 2) = false := by rw [← par_eq]; simpa using hQ.symm
                    clear hQ hs0
                    have HS := Lib.hid (show W.part 0 (i + 1) = W.part 0 i by rw [hps, show (decide ((0 : Nat) = 0) && skipB (W.at i) W.ib) = true by rw [hs.out]; rfl]; simp)
                    clear hps
                    go_wp2_with fail
                    go_roundw
                    case rel => first | exact ⟨i + 1, by omega, by go_num, by rw [HS.out]; exact hOi, hRi, hUi⟩ | ((repeat apply Exists.intro); refine ⟨?_, rfl⟩; exact ⟨i + 1, by omega, by go_num, by rw [HS.out]; exact hOi, hRi, hUi⟩)
                    case measure => simp [intOf]; omega
                · have eX := at_lo W h2 hin hgt
                  have b3 : decide ((W.tu : Int) < (W.at i : Nat)) = false := decide_eq_false (by omega)
                  have hW2 : IntKind.i64.wrap (W.at i : Nat) = (W.at i : Nat) := IntWalk.i64_in _ (by omega)
                  rw [eX] at hW1
                  cases hs0 : skipB (W.at i) W.ib
                  · have hs := Lib.hid hs0
                    rw [hs0] at hQ
                    have b4 : (((W.at i : Nat) : Int) % 2 == ((W.ib : Nat) : Int) % 2) = true := by rw [← par_eq]; simpa using hQ.symm
                    clear hQ hs0
                    have HS := Lib.hid (show W.part 0 (i + 1) = W.part 0 i ++ [W.at i] by rw [hps, show (decide ((0 : Nat) = 0) && skipB (W.at i) W.ib) = false by rw [hs.out]; rfl]; rfl)
                    clear hps
                    go_wp2_with (first | (at_builtin; refine wpList_append_own _ rfl (.tmp 78) (.tmp 81) 29 rfl (w.heap.size + 1) 24 i0 (.int .u16 0) 1 2 Try.underlying29 hi0 hz0 hz1 hz2 rfl (by decide) _ _ _ rfl (hOi.alloc _) ⟨wr.heap.size, 0, none⟩ 1 1 [.int .u16 (W.at i : Nat)] rfl rfl (one_new _ _ _) (one_one _ _) (by unfold maxLen; omega) (by omega) (by simp; omega) ?_; intro v1 w4 hown4 hg4 _))
                    have hn1 : ∀ q, u3.ownBlock = some q → w.heap.size + 1 ≤ q := fun q hq => (hOi.lt q hq).1
                    go_roundw
                    case rel => first | exact ⟨i + 1, by omega, by go_num, by rw [HS.out, ← List.append_assoc, ucl_snoc]; simpa [Nat.add_assoc] using hown4, (Upto.of_grown hg4).row (hRi.alloc _) (fun e => by have := hn1 _ e; omega), (hUi.alloc _).grown hg4 (fun q hq hlt => by have := hn1 q hq; omega)⟩ | ((repeat apply Exists.intro); refine ⟨?_, rfl⟩; exact ⟨i + 1, by omega, by go_num, by rw [HS.out, ← List.append_assoc, ucl_snoc]; simpa [Nat.add_assoc] using hown4, (Upto.of_grown hg4).row (hRi.alloc _) (fun e => by have := hn1 _ e; omega), (hUi.alloc _).grown hg4 (fun q hq hlt => by have := hn1 q hq; omega)⟩)
                    case measure => simp [intOf]; omega
                  · have hs := Lib.hid hs0
                    rw [hs0] at hQ
                    have b4 : (((W.at i : Nat) : Int) % 2 == ((W.ib : Nat) : Int) % 2) = false := by rw [← par_eq]; simpa using hQ.symm
                    clear hQ hs0
                    have HS := Lib.hid (show W.part 0 (i + 1) = W.part 0 i by rw [hps, show (decide ((0 : Nat) = 0) && skipB (W.at i) W.ib) = true by rw [hs.out]; rfl]; simp)
                    clear hps
                    go_wp2_with fail
                    go_roundw
                    case rel => first | exact ⟨i + 1, by omega, by go_num, by rw [HS.out]; exact hOi, hRi, hUi⟩ | ((repeat apply Exists.intro); refine ⟨?_, rfl⟩; exact ⟨i + 1, by omega, by go_num, by rw [HS.out]; exact hOi, hRi, hUi⟩)
                    case measure => simp [intOf]; omega
              · obtain rfl : i = W.n := by omega
                go_wp2_with fail
                go_roundw
                case rel => first | exact ⟨0 + 1, by omega, by go_num, by rw [done_succ W (by omega)]; exact hOi, hRi, hUi⟩ | ((repeat apply Exists.intro); refine ⟨?_, rfl⟩; exact ⟨0 + 1, by omega, by go_num, by rw [done_succ W (by omega)]; exact hOi, hRi, hUi⟩)
                case measure => simp [intOf]
          · go_wp2_with fail
            go_loopw [3, 7] (fun l t wr => ∃ i : Nat, i ≤ W.n ∧ t = .int .i64 i ∧ wr.ownsRow (w.heap.size + 1) 24 1 l (W.done 1 ++ W.part 1 i).length (ucl (W.done 1 ++ W.part 1 i)) ∧ wr.rowIs w.heap.size 34 7 (wF W) ∧ Upto NoS w wr) (fun _ t _ => W.n - (intOf t).toNat)
            case atStart => exact ⟨0, by omega, rfl, by simpa [Ws.part] using hOk, hRk, hUk⟩
            case round =>
              clear hOk hRk hUk
              obtain ⟨i, hi, rfl, hOi, hRi, hUi⟩ := hrel
              obtain ⟨d0, d1, d2, d3, d4, d5, d6⟩ := wd_cells hRi
              have hUs := hUi.size
              have hRl := hRi.lt
              have hlen : (W.done 1 ++ W.part 1 i).length ≤ 200000 := by
                rw [List.length_append]
                have := done_le W 1; have := part_le W 1 i; omega
              by_cases hin : i < W.n
              · have hW1 : IntKind.i64.wrap ((W.F : Int) + (i : Int)) = (W.F : Int) + (i : Int) := IntWalk.i64_in _ (by omega)
                have hat := at_in W h2 i
                have hW3 : IntKind.u16.wrap (W.at i : Nat) = (W.at i : Nat) := IntWalk.u16_in _ (by omega)
                have hps := part_succ W 1 i
                have hQ := skip_eq (W.at i) W.ib (by omega) o3
                by_cases hgt : W.tu < W.F + i
                · have b3 : decide ((W.tu : Int) < (W.F : Int) + (i : Int)) = true := decide_eq_true (by omega)
                  have eX := at_hi W h2 hin hgt
                  have hW2 : IntKind.i64.wrap (W.at i : Nat) = (W.at i : Nat) := IntWalk.i64_in _ (by omega)
                  clear hQ
                  have HS := Lib.hid (show W.part 1 (i + 1) = W.part 1 i ++ [W.at i] by rw [hps, show (decide ((1 : Nat) = 0) && skipB (W.at i) W.ib) = false from rfl]; rfl)
                  clear hps
                  go_wp2_with (first | (at_builtin; refine wpList_append_own _ rfl (.tmp 78) (.tmp 81) 29 rfl (w.heap.size + 1) 24 i0 (.int .u16 0) 1 2 Try.underlying29 hi0 hz0 hz1 hz2 rfl (by decide) _ _ _ rfl (hOi.alloc _) ⟨wr.heap.size, 0, none⟩ 1 1 [.int .u16 (W.at i : Nat)] rfl rfl (one_new _ _ _) (one_one _ _) (by unfold maxLen; omega) (by omega) (by simp; omega) ?_; intro v1 w4 hown4 hg4 _))
                  have hn1 : ∀ q, u3.ownBlock = some q → w.heap.size + 1 ≤ q := fun q hq => (hOi.lt q hq).1
                  go_roundw
                  case rel => first | exact ⟨i + 1, by omega, by go_num, by rw [HS.out, ← List.append_assoc, ucl_snoc]; simpa [Nat.add_assoc] using hown4, (Upto.of_grown hg4).row (hRi.alloc _) (fun e => by have := hn1 _ e; omega), (hUi.alloc _).grown hg4 (fun q hq hlt => by have := hn1 q hq; omega)⟩ | ((repeat apply Exists.intro); refine ⟨?_, rfl⟩; exact ⟨i + 1, by omega, by go_num, by rw [HS.out, ← List.append_assoc, ucl_snoc]; simpa [Nat.add_assoc] using hown4, (Upto.of_grown hg4).row (hRi.alloc _) (fun e => by have := hn1 _ e; omega), (hUi.alloc _).grown hg4 (fun q hq hlt => by have := hn1 q hq; omega)⟩)
                  case measure => simp [intOf]; omega
                · have eX := at_lo W h2 hin hgt
                  have b3 : decide ((W.tu : Int) < (W.at i : Nat)) = false := decide_eq_false (by omega)
                  have hW2 : IntKind.i64.wrap (W.at i : Nat) = (W.at i : Nat) := IntWalk.i64_in _ (by omega)
                  rw [eX] at hW1
                  clear hQ
                  have HS := Lib.hid (show W.part 1 (i + 1) = W.part 1 i ++ [W.at i] by rw [hps, show (decide ((1 : Nat) = 0) && skipB (W.at i) W.ib) = false from rfl]; rfl)
                  clear hps
                  go_wp2_with (first | (at_builtin; refine wpList_append_own _ rfl (.tmp 78) (.tmp 81) 29 rfl (w.heap.size + 1) 24 i0 (.int .u16 0) 1 2 Try.underlying29 hi0 hz0 hz1 hz2 rfl (by decide) _ _ _ rfl (hOi.alloc _) ⟨wr.heap.size, 0, none⟩ 1 1 [.int .u16 (W.at i : Nat)] rfl rfl (one_new _ _ _) (one_one _ _) (by unfold maxLen; omega) (by omega) (by simp; omega) ?_; intro v1 w4 hown4 hg4 _))
                  have hn1 : ∀ q, u3.ownBlock = some q → w.heap.size + 1 ≤ q := fun q hq => (hOi.lt q hq).1
                  go_roundw
                  case rel => first | exact ⟨i + 1, by omega, by go_num, by rw [HS.out, ← List.append_assoc, ucl_snoc]; simpa [Nat.add_assoc] using hown4, (Upto.of_grown hg4).row (hRi.alloc _) (fun e => by have := hn1 _ e; omega), (hUi.alloc _).grown hg4 (fun q hq hlt => by have := hn1 q hq; omega)⟩ | ((repeat apply Exists.intro); refine ⟨?_, rfl⟩; exact ⟨i + 1, by omega, by go_num, by rw [HS.out, ← List.append_assoc, ucl_snoc]; simpa [Nat.add_assoc] using hown4, (Upto.of_grown hg4).row (hRi.alloc _) (fun e => by have := hn1 _ e; omega), (hUi.alloc _).grown hg4 (fun q hq hlt => by have := hn1 q hq; omega)⟩)
                  case measure => simp [intOf]; omega
              · obtain rfl : i = W.n := by omega
                go_wp2_with fail
                go_roundw
                case rel => first | exact ⟨1 + 1, by omega, by go_num, by rw [done_succ W (by omega)]; exact hOi, hRi, hUi⟩ | ((repeat apply Exists.intro); refine ⟨?_, rfl⟩; exact ⟨1 + 1, by omega, by go_num, by rw [done_succ W (by omega)]; exact hOi, hRi, hUi⟩)
                case measure => simp [intOf]
        · obtain rfl : k = 2 := by omega
          go_wp2_with fail
          go_ret
          exact ⟨u3, rfl, hOk, hUk⟩
  · have hO : W.own = [] := if_neg (by omega)
    have b1 : decide ((W.fr : Int) ≤ W.ib) = false := decide_eq_false (by omega)
    go_enter Try.func12, Try.ntmps12
    go_wp2_with fail
    go_quiet (fail)
    have hO0 : ((w.alloc (.cells (wcells W) 34)).drewN nq).ownsRow (w.heap.size + 1) 24 1 (.slice none 0 0) (W.done 0).length (ucl (W.done 0)) := by simp only [Ws.done, hO]; exact World.ownsRow_nil _ _ _ _
    replace hU0 := hU0.drewN nq
    replace hR0 : ((w.alloc (.cells (wcells W) 34)).drewN nq).rowIs w.heap.size 34 7 (wF W) := hR0
    go_wp2_with fail
    go_loopw [3, 6] (fun l t wr => ∃ k : Nat, k ≤ 2 ∧ t = .int .i64 k ∧ wr.ownsRow (w.heap.size + 1) 24 1 l (W.done k).length (ucl (W.done k)) ∧ wr.rowIs w.heap.size 34 7 (wF W) ∧ Upto NoS w wr) (fun _ t _ => 2 - (intOf t).toNat)
    case atStart => exact ⟨0, by omega, rfl, hO0, hR0, hU0⟩
    case round =>
      clear hO0 hR0 hU0
      obtain ⟨k, hk, rfl, hOk, hRk, hUk⟩ := hrel
      by_cases hk2 : k < 2
      · have hkk : k = 0 ∨ k = 1 := by omega
        rcases hkk with rfl | rfl
        · go_wp2_with fail
          go_loopw [3, 7] (fun l t wr => ∃ i : Nat, i ≤ W.n ∧ t = .int .i64 i ∧ wr.ownsRow (w.heap.size + 1) 24 1 l (W.done 0 ++ W.part 0 i).length (ucl (W.done 0 ++ W.part 0 i)) ∧ wr.rowIs w.heap.size 34 7 (wF W) ∧ Upto NoS w wr) (fun _ t _ => W.n - (intOf t).toNat)
          case atStart => exact ⟨0, by omega, rfl, by simpa [Ws.part] using hOk, hRk, hUk⟩
          case round =>
            clear hOk hRk hUk
            obtain ⟨i, hi, rfl, hOi, hRi, hUi⟩ := hrel
            obtain ⟨d0, d1, d2, d3, d4, d5, d6⟩ := wd_cells hRi
            have hUs := hUi.size
            have hRl := hRi.lt
            have hlen : (W.done 0 ++ W.part 0 i).length ≤ 200000 := by
              rw [List.length_append]
              have := done_le W 0; have := part_le W 0 i; omega
            by_cases hin : i < W.n
            · have hW1 : IntKind.i64.wrap ((W.F : Int) + (i : Int)) = (W.F : Int) + (i : Int) := IntWalk.i64_in _ (by omega)
              have hat := at_in W h2 i
              have hW3 : IntKind.u16.wrap (W.at i : Nat) = (W.at i : Nat) := IntWalk.u16_in _ (by omega)
              have hps := part_succ W 0 i
              have hQ := skip_eq (W.at i) W.ib (by omega) o3
              by_cases hgt : W.tu < W.F + i
              · have b3 : decide ((W.tu : Int) < (W.F : Int) + (i : Int)) = true := decide_eq_true (by omega)
                have eX := at_hi W h2 hin hgt
                have hW2 : IntKind.i64.wrap (W.at i : Nat) = (W.at i : Nat) := IntWalk.i64_in _ (by omega)
                cases hs0 : skipB (W.at i) W.ib
                · have hs := Lib.hid hs0
                  rw [hs0] at hQ
                  have b4 : (((W.at i : Nat) : Int) % 2 == ((W.ib : Nat) : Int) % 2) = true := by rw [← par_eq]; simpa using hQ.symm
                  clear hQ hs0
                  have HS := Lib.hid (show W.part 0 (i + 1) = W.part 0 i ++ [W.at i] by rw [hps, show (decide ((0 : Nat) = 0) && skipB (W.at i) W.ib) = false by rw [hs.out]; rfl]; rfl)
                  clear hps
                  go_wp2_with (first | (at_builtin; refine wpList_append_own _ rfl (.tmp 78) (.tmp 81) 29 rfl (w.heap.size + 1) 24 i0 (.int .u16 0) 1 2 Try.underlying29 hi0 hz0 hz1 hz2 rfl (by decide) _ _ _ rfl (hOi.alloc _) ⟨wr.heap.size, 0, none⟩ 1 1 [.int .u16 (W.at i : Nat)] rfl rfl (one_new _ _ _) (one_one _ _) (by unfold maxLen; omega) (by omega) (by simp; omega) ?_; intro v1 w4 hown4 hg4 _))
                  have hn1 : ∀ q, u3.ownBlock = some q → w.heap.size + 1 ≤ q := fun q hq => (hOi.lt q hq).1
                  go_roundw
                  case rel => first | exact ⟨i + 1, by omega, by go_num, by rw [HS.out, ← List.append_assoc, ucl_snoc]; simpa [Nat.add_assoc] using hown4, (Upto.of_grown hg4).row (hRi.alloc _) (fun e => by have := hn1 _ e; omega), (hUi.alloc _).grown hg4 (fun q hq hlt => by have := hn1 q hq; omega)⟩ | ((repeat apply Exists.intro); refine ⟨?_, rfl⟩; exact ⟨i + 1, by omega, by go_num, by rw [HS.out, ← List.append_assoc, ucl_snoc]; simpa [Nat.add_assoc] using hown4, (Upto.of_grown hg4).row (hRi.alloc _) (fun e => by have := hn1 _ e; omega), (hUi.alloc _).grown hg4 (fun q hq hlt => by have := hn1 q hq; omega)⟩)
                  case measure => simp [intOf]; omega
                · have hs := Lib.hid hs0
                  rw [hs0] at hQ
                  have b4 : (((W.at i : Nat) : Int) % 2 == ((W.ib : Nat) : Int) % 2) = false := by rw [← par_eq]; simpa using hQ.symm
                  clear hQ hs0
                  have HS := Lib.hid (show W.part 0 (i + 1) = W.part 0 i by rw [hps, show (decide ((0 : Nat) = 0) && skipB (W.at i) W.ib) = true by rw [hs.out]; rfl]; simp)
                  clear hps
                  go_wp2_with fail
                  go_roundw
                  case rel => first | exact ⟨i + 1, by omega, by go_num, by rw [HS.out]; exact hOi, hRi, hUi⟩ | ((repeat apply Exists.intro); refine ⟨?_, rfl⟩; exact ⟨i + 1, by omega, by go_num, by rw [HS.out]; exact hOi, hRi, hUi⟩)
                  case measure => simp [intOf]; omega
              · have eX := at_lo W h2 hin hgt
                have b3 : decide ((W.tu : Int) < (W.at i : Nat)) = false := decide_eq_false (by omega)
                have hW2 : IntKind.i64.wrap (W.at i : Nat) = (W.at i : Nat) := IntWalk.i64_in _ (by omega)
                rw [eX] at hW1
                cases hs0 : skipB (W.at i) W.ib
                · have hs := Lib.hid hs0
                  rw [hs0] at hQ
                  have b4 : (((W.at i : Nat) : Int) % 2 == ((W.ib : Nat) : Int) % 2) = true := by rw [← par_eq]; simpa using hQ.symm
                  clear hQ hs0
                  have HS := Lib.hid (show W.part 0 (i + 1) = W.part 0 i ++ [W.at i] by rw [hps, show (decide ((0 : Nat) = 0) && skipB (W.at i) W.ib) = false by rw [hs.out]; rfl]; rfl)
                  clear hps
                  go_wp2_with (first | (at_builtin; refine wpList_append_own _ rfl (.tmp 78) (.tmp 81) 29 rfl (w.heap.size + 1) 24 i0 (.int .u16 0) 1 2 Try.underlying29 hi0 hz0 hz1 hz2 rfl (by decide) _ _ _ rfl (hOi.alloc _) ⟨wr.heap.size, 0, none⟩ 1 1 [.int .u16 (W.at i : Nat)] rfl rfl (one_new _ _ _) (one_one _ _) (by unfold maxLen; omega) (by omega) (by simp; omega) ?_; intro v1 w4 hown4 hg4 _))
                  have hn1 : ∀ q, u3.ownBlock = some q → w.heap.size + 1 ≤ q := fun q hq => (hOi.lt q hq).1
                  go_roundw
                  case rel => first | exact ⟨i + 1, by omega, by go_num, by rw [HS.out, ← List.append_assoc, ucl_snoc]; simpa [Nat.add_assoc] using hown4, (Upto.of_grown hg4).row (hRi.alloc _) (fun e => by have := hn1 _ e; omega), (hUi.alloc _).grown hg4 (fun q hq hlt => by have := hn1 q hq; omega)⟩ | ((repeat apply Exists.intro); refine ⟨?_, rfl⟩; exact ⟨i + 1, by omega, by go_num, by rw [HS.out, ← List.append_assoc, ucl_snoc]; simpa [Nat.add_assoc] using hown4, (Upto.of_grown hg4).row (hRi.alloc _) (fun e => by have := hn1 _ e; omega), (hUi.alloc _).grown hg4 (fun q hq hlt => by have := hn1 q hq; omega)⟩)
                  case measure => simp [intOf]; omega
                · have hs := Lib.hid hs0
                  rw [hs0] at hQ
                  have b4 : (((W.at i : Nat) : Int) % 2 == ((W.ib : Nat) : Int) % 2) = false := by rw [← par_eq]; simpa using hQ.symm
                  clear hQ hs0
                  have HS := Lib.hid (show W.part 0 (i + 1) = W.part 0 i by rw [hps, show (decide ((0 : Nat) = 0) && skipB (W.at i) W.ib) = true by rw [hs.out]; rfl]; simp)
                  clear hps
                  go_wp2_with fail
                  go_roundw
                  case rel => first | exact ⟨i + 1, by omega, by go_num, by rw [HS.out]; exact hOi, hRi, hUi⟩ | ((repeat apply Exists.intro); refine ⟨?_, rfl⟩; exact ⟨i + 1, by omega, by go_num, by rw [HS.out]; exact hOi, hRi, hUi⟩)
                  case measure => simp [intOf]; omega
            · obtain rfl : i = W.n := by omega
              go_wp2_with fail
              go_roundw
              case rel => first | exact ⟨0 + 1, by omega, by go_num, by rw [done_succ W (by omega)]; exact hOi, hRi, hUi⟩ | ((repeat apply Exists.intro); refine ⟨?_, rfl⟩; exact ⟨0 + 1, by omega, by go_num, by rw [done_succ W (by omega)]; exact hOi, hRi, hUi⟩)
              case measure => simp [intOf]
        · go_wp2_with fail
          go_loopw [3, 7] (fun l t wr => ∃ i : Nat, i ≤ W.n ∧ t = .int .i64 i ∧ wr.ownsRow (w.heap.size + 1) 24 1 l (W.done 1 ++ W.part 1 i).length (ucl (W.done 1 ++ W.part 1 i)) ∧ wr.rowIs w.heap.size 34 7 (wF W) ∧ Upto NoS w wr) (fun _ t _ => W.n - (intOf t).toNat)
          case atStart => exact ⟨0, by omega, rfl, by simpa [Ws.part] using hOk, hRk, hUk⟩
          case round =>
            clear hOk hRk hUk
            obtain ⟨i, hi, rfl, hOi, hRi, hUi⟩ := hrel
            obtain ⟨d0, d1, d2, d3, d4, d5, d6⟩ := wd_cells hRi
            have hUs := hUi.size
            have hRl := hRi.lt
            have hlen : (W.done 1 ++ W.part 1 i).length ≤ 200000 := by
              rw [List.length_append]
              have := done_le W 1; have := part_le W 1 i; omega
            by_cases hin : i < W.n
            · have hW1 : IntKind.i64.wrap ((W.F : Int) + (i : Int)) = (W.F : Int) + (i : Int) := IntWalk.i64_in _ (by omega)
              have hat := at_in W h2 i
              have hW3 : IntKind.u16.wrap (W.at i : Nat) = (W.at i : Nat) := IntWalk.u16_in _ (by omega)
              have hps := part_succ W 1 i
              have hQ := skip_eq (W.at i) W.ib (by omega) o3
              by_cases hgt : W.tu < W.F + i
              · have b3 : decide ((W.tu : Int) < (W.F : Int) + (i : Int)) = true := decide_eq_true (by omega)
                have eX := at_hi W h2 hin hgt
                have hW2 : IntKind.i64.wrap (W.at i : Nat) = (W.at i : Nat) := IntWalk.i64_in _ (by omega)
                clear hQ
                have HS := Lib.hid (show W.part 1 (i + 1) = W.part 1 i ++ [W.at i] by rw [hps, show (decide ((1 : Nat) = 0) && skipB (W.at i) W.ib) = false from rfl]; rfl)
                clear hps
                go_wp2_with (first | (at_builtin; refine wpList_append_own _ rfl (.tmp 78) (.tmp 81) 29 rfl (w.heap.size + 1) 24 i0 (.int .u16 0) 1 2 Try.underlying29 hi0 hz0 hz1 hz2 rfl (by decide) _ _ _ rfl (hOi.alloc _) ⟨wr.heap.size, 0, none⟩ 1 1 [.int .u16 (W.at i : Nat)] rfl rfl (one_new _ _ _) (one_one _ _) (by unfold maxLen; omega) (by omega) (by simp; omega) ?_; intro v1 w4 hown4 hg4 _))
                have hn1 : ∀ q, u3.ownBlock = some q → w.heap.size + 1 ≤ q := fun q hq => (hOi.lt q hq).1
                go_roundw
                case rel => first | exact ⟨i + 1, by omega, by go_num, by rw [HS.out, ← List.append_assoc, ucl_snoc]; simpa [Nat.add_assoc] using hown4, (Upto.of_grown hg4).row (hRi.alloc _) (fun e => by have := hn1 _ e; omega), (hUi.alloc _).grown hg4 (fun q hq hlt => by have := hn1 q hq; omega)⟩ | ((repeat apply Exists.intro); refine ⟨?_, rfl⟩; exact ⟨i + 1, by omega, by go_num, by rw [HS.out, ← List.append_assoc, ucl_snoc]; simpa [Nat.add_assoc] using hown4, (Upto.of_grown hg4).row (hRi.alloc _) (fun e => by have := hn1 _ e; omega), (hUi.alloc _).grown hg4 (fun q hq hlt => by have := hn1 q hq; omega)⟩)
                case measure => simp [intOf]; omega
              · have eX := at_lo W h2 hin hgt
                have b3 : decide ((W.tu : Int) < (W.at i : Nat)) = false := decide_eq_false (by omega)
                have hW2 : IntKind.i64.wrap (W.at i : Nat) = (W.at i : Nat) := IntWalk.i64_in _ (by omega)
                rw [eX] at hW1
                clear hQ
                have HS := Lib.hid (show W.part 1 (i + 1) = W.part 1 i ++ [W.at i] by rw [hps, show (decide ((1 : Nat) = 0) && skipB (W.at i) W.ib) = false from rfl]; rfl)
                clear hps
                go_wp2_with (first | (at_builtin; refine wpList_append_own _ rfl (.tmp 78) (.tmp 81) 29 rfl (w.heap.size + 1) 24 i0 (.int .u16 0) 1 2 Try.underlying29 hi0 hz0 hz1 hz2 rfl (by decide) _ _ _ rfl (hOi.alloc _) ⟨wr.heap.size, 0, none⟩ 1 1 [.int .u16 (W.at i : Nat)] rfl rfl (one_new _ _ _) (one_one _ _) (by unfold maxLen; omega) (by omega) (by simp; omega) ?_; intro v1 w4 hown4 hg4 _))
                have hn1 : ∀ q, u3.ownBlock = some q → w.heap.size + 1 ≤ q := fun q hq => (hOi.lt q hq).1
                go_roundw
                case rel => first | exact ⟨i + 1, by omega, by go_num, by rw [HS.out, ← List.append_assoc, ucl_snoc]; simpa [Nat.add_assoc] using hown4, (Upto.of_grown hg4).row (hRi.alloc _) (fun e => by have := hn1 _ e; omega), (hUi.alloc _).grown hg4 (fun q hq hlt => by have := hn1 q hq; omega)⟩ | ((repeat apply Exists.intro); refine ⟨?_, rfl⟩; exact ⟨i + 1, by omega, by go_num, by rw [HS.out, ← List.append_assoc, ucl_snoc]; simpa [Nat.add_assoc] using hown4, (Upto.of_grown hg4).row (hRi.alloc _) (fun e => by have := hn1 _ e; omega), (hUi.alloc _).grown hg4 (fun q hq hlt => by have := hn1 q hq; omega)⟩)
                case measure => simp [intOf]; omega
            · obtain rfl : i = W.n := by omega
              go_wp2_with fail
              go_roundw
              case rel => first | exact ⟨1 + 1, by omega, by go_num, by rw [done_succ W (by omega)]; exact hOi, hRi, hUi⟩ | ((repeat apply Exists.intro); refine ⟨?_, rfl⟩; exact ⟨1 + 1, by omega, by go_num, by rw [done_succ W (by omega)]; exact hOi, hRi, hUi⟩)
              case measure => simp [intOf]
      · obtain rfl : k = 2 := by omega
        go_wp2_with fail
        go_ret
        exact ⟨u3, rfl, hOk, hUk⟩
end Go.Proofs.Ytfiblchdfacdiaa
