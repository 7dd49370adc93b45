/- EpochsEnd, walked. -/
import Derived.Test.YtmmhjibgmpdjoaaEndPlain
namespace Go.Proofs.Ytmmhjibgmpdjoaa
open Go Go.RowKit Go.Deep Md

set_option maxRecDepth 100000 in
set_option maxHeartbeats 2000000 in
theorem end_walk (a0 : Nat) (a : Option Addr) (len cap : Nat) (z : Nat → ActV) (w : World) (h0 : a0 < 256) (hm : len ≤ 9223372036854775807) (hz : ActsAt w a len z) :
    Calls Try.prog 6 #[.int .u8 a0, .slice a len cap] w (Told (.bool true) w) := by
  obtain ⟨n, hn⟩ : ∃ n, n = 1 + a0 % 8 := ⟨_, rfl⟩
  have hn1 : 1 ≤ n := by omega
  have hn2 : n ≤ 8 := by omega
  have hx : (1 : Int) + (a0 : Int) % 8 = n := by omega
  clear hn
  by_cases hlen : 200 < len
  · go_enter Try.func6, Try.ntmps6
    go_wp2_with (first
      | (go_at_call 8; refine (DNew n hn1 (by omega)).mono ?_; rintro e w1 ⟨x, g, rfl, hD⟩)
      | (go_at_call 7; refine (waited_any _).mono ?_; rintro e w2 ⟨rfl, hu⟩))
    go_ret
    exact ⟨rfl, hD.bel.trans hu⟩
  · go_enter Try.func6, Try.ntmps6
    go_wp2_with (first
      | (go_at_call 8; refine (DNew n hn1 (by omega)).mono ?_; rintro e w1 ⟨x, g, rfl, hD⟩))
    have hI := EI.start n
    clear hx
    go_loopw [8] (fun i wr => ∃ (k : Nat) (vt : Value) (E : Ep), k ≤ len ∧ i = .int .i64 k ∧ Wd w wr x g vt E ∧ EI n k E) (fun i _ => len - (intOf i).toNat)
    case atStart => exact ⟨0, _, _, by omega, rfl, hD, hI⟩
    case round =>
      clear hD hI
      obtain ⟨k, vt, E, hk, rfl, hD, hI⟩ := hrel
      by_cases hlt : k < len
      · obtain ⟨hzk, bo, off, ha, hbo, hA⟩ := hz k hlt
        have hAr := hA.upto hD.bel
        obtain ⟨g1, g2, g3⟩ := hAr
        subst ha
        obtain ⟨r, hr⟩ : ∃ r : Nat, (((z k).kind : Nat) : Int) % 4 = r := ⟨(z k).kind % 4, by simp⟩
        have hr4 : r < 4 := by omega
        have hkn := hzk.1
        have hs1 : withinN (z k).slot 256 < 256 := withinN_lt _ (by omega)
        have hnow := hI.now
        have hmany := hI.many
        have z0 : (0 : Int) ≤ (k : Int) := by omega
        have z1 : (k : Int) < (len : Int) := by omega
        clear hzk hA hz
        generalize hwi : withinN (z k).who n = wi
        generalize hsl : withinN (z k).slot 256 = sl at hs1
        have W1 := Lib.hid (fun m => quiet_same (n := m) (hwi ▸ within_any (wr.drewN m) (z k).who n hn1 (by omega)))
        have W2 := Lib.hid (fun m => quiet_same (n := m) (hsl ▸ within_256 (wr.drewN m) (z k).slot))
        clear hwi hsl
        go_wp2_with fail
        go_quiet ((first | (go_at_call 10; with_reducible exact W1.out _) | (go_at_call 10; with_reducible exact W2.out _)))
        replace hD := hD.upto ((Upto.refl _ _).drewN nq)
        clear W1 W2
        rcases (show r = 0 ∨ r = 1 ∨ r = 2 ∨ r = 3 by omega) with hc | hc | hc | hc
        · subst hc
          go_wp2_with (first
            | (go_at_call 11; refine (DEnter hD (wi : Nat) rfl rfl).mono ?_; rintro e w2 ⟨rfl, v2, hD2, _⟩))
          go_roundw
          case rel => exact ⟨k + 1, _, _, by omega, by go_num, hD2, hI.ann _ _⟩
          case measure => simp [intOf]; omega
        · subst hc
          go_wp2_with (first
            | (go_at_call 13; refine (DLeave hD (wi : Nat) rfl rfl).mono ?_; rintro e w2 ⟨rfl, v2, hD2, _⟩))
          go_roundw
          case rel => exact ⟨k + 1, _, _, by omega, by go_num, hD2, hI.ann _ _⟩
          case measure => simp [intOf]; omega
        · subst hc
          go_wp2_with (first
            | (go_at_call 15; refine (DAdv hD (by omega) rfl rfl).mono ?_; rintro e w2 ⟨rfl, v2, hD2, _⟩))
          go_roundw
          case rel => exact ⟨k + 1, _, _, by omega, by go_num, hD2, hI.adv⟩
          case measure => simp [intOf]; omega
        · subst hc
          go_wp2_with (first
            | (go_at_call 20; refine (DDef hD (sl : Nat) (by omega) (by omega) (by omega) rfl rfl).mono ?_; rintro e w2 ⟨rfl, v2, hD2, _⟩))
          go_roundw
          case rel => exact ⟨k + 1, _, _, by omega, by go_num, hD2, hI.dfr _⟩
          case measure => simp [intOf]; omega
      · obtain rfl : len = k := by omega
        have hnow := hI.now
        have hmany := hI.many
        have hwl := Lib.hid hI.len
        have hnd := Lib.hid hI.nodup
        have hok := hD.at_.ok
        have hsince : ∀ j, j < E.wt.length → (E.wt.getD j (0, 0)).2 ≤ E.now := fun j hj => (hok.wt j hj).2
        have hslot : ∀ j, j < E.wt.length → (E.wt.getD j (0, 0)).1 < 256 := fun j hj => (hok.wt j hj).1
        have HS := Lib.hid hsince
        have HL := Lib.hid hslot
        obtain ⟨now, hnw⟩ : ∃ m, m = E.now := ⟨_, rfl⟩
        obtain ⟨wt, hwt⟩ : ∃ m, m = E.wt := ⟨_, rfl⟩
        have hD1 : Wd w wr x g vt ⟨now + 0, E.ws, wt⟩ := by rw [hnw, hwt]; exact hD
        rw [← hnw] at hnow HS
        rw [← hwt] at hmany hnd HS HL
        have hws0 : E.ws.length = n := hwl.out
        generalize E.ws = ws0 at hD1 hws0
        clear hz hD hI hok hsince hslot hnw hwt hwl
        go_wp2_with (go_at_call 28; refine (DWait hD1 (n := wt.length) rfl).mono ?_; rintro e w' ⟨rfl, rfl⟩)
        go_loopw [12, 13] (fun v _ wo => ∃ (t : Nat) (vt' : Value) (ws : List Int), t ≤ 2 ∧ v = .int .i64 t ∧ Wd w wo x g vt' ⟨now + t, ws, wt⟩ ∧ ws.length = n) (fun v _ _ => 2 - (intOf v).toNat)
        case atStart => exact ⟨0, _, _, by omega, rfl, hD1, hws0⟩
        case round =>
          clear hD1 hws0
          obtain ⟨t, vt', ws, ht, rfl, hD, hws⟩ := hrel
          obtain ⟨wo, hwo⟩ : ∃ wo : World, wo = wr := ⟨_, rfl⟩
          by_cases htl : t < 2
          · have HWS := Lib.hid hws
            have htd : decide ((t : Int) < 2) = true := decide_eq_true (by omega)
            clear hws
            go_wp2_with fail
            go_loopw [13] (fun v wi => ∃ (j : Nat) (vi : Value) (wj : List Int), j ≤ n ∧ v = .int .i64 j ∧ Wd w wi x g vi ⟨now + t, wj, wt⟩ ∧ Hid (wj.length = n) ∧ Hid (∀ i, i < j → wAt wj i = -1 ∨ wAt wj i = ((now + t : Nat) : Int))) (fun v _ => n - (intOf v).toNat)
            case atStart => exact ⟨0, _, _, by omega, rfl, hD, HWS, Lib.hid (fun i hi => by omega)⟩
            case round =>
              clear hD
              obtain ⟨j, vi, wj, hj, rfl, hD, hwj, hall⟩ := hrel
              by_cases hjl : j < n
              · have hjw : j < wj.length := by rw [hwj.out]; exact hjl
                have hseen : seenI ⟨now + t, wj, wt⟩ j = wAt wj j := by unfold seenI; rw [if_pos ⟨by omega, by show (j : Int) < (wj.length : Int); omega⟩]; simp
                by_cases hq : wAt wj j = -1
                · have hin := Lib.hid (show (seenI ⟨now + t, wj, wt⟩ j != -1) = false by rw [hseen, hq]; rfl)
                  have HQ := Lib.hid hq
                  clear hseen hq
                  go_wp2_with (go_at_call 24; refine (DIn hD (j : Nat) hin.out).mono ?_; rintro e w' ⟨rfl, rfl⟩)
                  go_roundw
                  have HF : Hid (∀ i, i < j + 1 → wAt wj i = -1 ∨ wAt wj i = ((now + t : Nat) : Int)) := Lib.hid (fun i hi => by by_cases e : i = j; (subst e; exact .inl HQ.out); exact hall.out i (by omega))
                  case rel => first | exact ⟨j + 1, vi, wj, by omega, by go_num, hD, hwj, HF⟩ | ((repeat apply Exists.intro); refine ⟨?_, rfl⟩; exact ⟨j + 1, vi, wj, by omega, by go_num, hD, hwj, HF⟩)
                  case measure => simp [intOf]; omega
                · have hin := Lib.hid (show (seenI ⟨now + t, wj, wt⟩ j != -1) = true by rw [hseen]; simpa using hq)
                  have hE1 := Lib.hid (show annSt ⟨now + t, wj, wt⟩ j ((now + t : Nat) : Int) = ⟨now + t, wj.set j ((now + t : Nat) : Int), wt⟩ by unfold annSt; rw [if_pos ⟨by omega, by show (j : Int) < (wj.length : Int); omega⟩]; simp)
                  have hE2 := Lib.hid (show annE ⟨now + t, wj, wt⟩ j = 0 by unfold annE; rw [if_pos ⟨by omega, by show (j : Int) < (wj.length : Int); omega⟩])
                  clear hseen hq
                  go_wp2_with (first
                    | (go_at_call 24; refine (DIn hD (j : Nat) hin.out).mono ?_; rintro e w' ⟨rfl, rfl⟩)
                    | (go_at_call 11; refine (DEnter hD (j : Nat) hE1.out hE2.out).mono ?_; rintro e w2 ⟨rfl, v2, hD2, _⟩))
                  go_roundw
                  have HF : Hid (∀ i, i < j + 1 → wAt (wj.set j ((now + t : Nat) : Int)) i = -1 ∨ wAt (wj.set j ((now + t : Nat) : Int)) i = ((now + t : Nat) : Int)) := Lib.hid (fun i hi => by
                    rw [wAt_set _ _ _ _ hjw]
                    by_cases e : i = j
                    · rw [if_pos e]; exact .inr rfl
                    · rw [if_neg e]; exact hall.out i (by omega))
                  have HF2 : Hid ((wj.set j ((now + t : Nat) : Int)).length = n) := Lib.hid (by rw [List.length_set]; exact hwj.out)
                  case rel => first | exact ⟨j + 1, v2, _, by omega, by go_num, hD2, HF2, HF⟩ | ((repeat apply Exists.intro); refine ⟨?_, rfl⟩; exact ⟨j + 1, v2, _, by omega, by go_num, hD2, HF2, HF⟩)
                  case measure => simp [intOf]; omega
              · obtain rfl : n = j := by omega
                have hadv : advB ⟨now + t, wj, wt⟩ = true := adv_all (fun i hi => hall.out i (by have := hwj.out; show i < n; have h2 : i < wj.length := hi; omega))
                have HA := Lib.hid hadv
                have HA2 := Lib.hid (show advSt ⟨now + t, wj, wt⟩ = ⟨now + (t + 1), wj, wt⟩ by unfold advSt; rw [hadv]; rfl)
                clear hadv
                go_wp2_with (go_at_call 15; refine (DAdv hD (by show now + t < 1000000; omega) HA2.out HA.out).mono ?_; rintro e w2 ⟨rfl, v2, hD2, _⟩)
                go_roundw
                case rel => first | exact ⟨t + 1, v2, wj, by omega, by go_num, hD2, hwj.out⟩ | ((repeat apply Exists.intro); refine ⟨?_, rfl⟩; exact ⟨t + 1, v2, wj, by omega, by go_num, hD2, hwj.out⟩)
                case measure => simp [intOf]; omega
          · obtain rfl : t = 2 := by omega
            clear hwo hws
            obtain ⟨hr1, hr2⟩ := ripe_all (now := now) (ws := ws) (wt := wt) HS.out
            have HR1 := Lib.hid hr1
            have HR2 := Lib.hid hr2
            clear hr1 hr2
            obtain ⟨R, hR⟩ : ∃ R, R = wt.map Prod.fst := ⟨_, rfl⟩
            have HR := Lib.hid hR
            have HRl := Lib.hid (show R.length = wt.length by rw [hR]; simp)
            clear hR
            obtain ⟨zs, hzs⟩ : ∃ zs : Array Value, zs = Array.replicate 256 (.bool false) := ⟨_, rfl⟩
            have hz50 : ∀ w, (zeroValue 50).run Try.prog w = .ok (.agg zs) w := by subst hzs; exact zero50
            have HZ := Lib.hid hzs
            clear hzs
            go_wp2_with (go_at_call 18; refine (DRipe hD (r := R) HR2.out (HR1.out.trans HR.out.symm)).mono ?_; rintro e w5 ⟨l, v5, rfl, hl, hD5, _⟩; obtain ⟨la, lc, hlv, hla⟩ := own_slice hl; subst hlv; have HLA := Lib.hid hla; clear hla)
            have hsz : zs.size = 256 := by rw [HZ.out]; simp
            have hrow0 : (w5.alloc (.cells zs 50)).rowIs w5.heap.size 50 256 (fun q => .bool (decide (q ∈ R.take 0))) := by
              have := World.rowIs_alloc w5 zs 50 (fun q => .bool (decide (q ∈ R.take 0))) (fun i hi => by rw [HZ.out]; rw [hsz] at hi; simp [hi])
              rw [hsz] at this; exact this
            have hx5 := hD5.at_.lt
            have hg5 := hD5.at_.gx
            have hv5 : ∀ q, v5.ownBlock = some q → q < w5.heap.size := fun q hq => (hD5.at_.vt_ne hq).2
            have hl5 : ∀ q, (Value.slice la R.length lc).ownBlock = some q → q < w5.heap.size := fun q hq => (hl.lt q hq).2
            have hlA := hl.alloc (.cells zs 50)
            have hDA := hD5.alloc (.cells zs 50)
            have hRlt : ∀ j, j < R.length → R.getD j 0 < 256 := fun j hj => by
              have := HL.out j (by rw [← HRl.out]; exact hj)
              rw [HR.out] at hj ⊢
              simp at hj
              simpa [hj] using this
            have hRnd : ∀ j, j < R.length → R.getD j 0 ∉ R.take j := fun j hj hm => by
              have hnd2 : R.Nodup := by rw [HR.out]; exact hnd.out
              obtain ⟨i, hi, he⟩ := List.getElem_of_mem hm
              have hij : i < j := by simp at hi; omega
              rw [List.getElem_take] at he
              have : R.getD j 0 = R[j] := by simp [hj]
              rw [this] at he
              exact (List.pairwise_iff_getElem.1 hnd2 i j (by simp at hi; omega) hj hij) he
            have hRb : R.length ≤ 1000 := by rw [HRl.out]; omega
            have HRL := Lib.hid hRlt
            have HRN := Lib.hid hRnd
            have HV5 := Lib.hid hv5
            have HL5 := Lib.hid hl5
            generalize hsb : w5.heap.size = sb at hrow0 hx5 hv5 hl5 HV5 HL5 ⊢
            generalize hW6 : w5.alloc (.cells zs 50) = W6 at hrow0 hlA hDA ⊢
            clear hRlt hRnd hv5 hl5 hD5 hl hW6 hsb hsz
            go_loopw [16] (fun v wi => ∃ j : Nat, j ≤ R.length ∧ v = .int .i64 j ∧ Wd w wi x g v5 ⟨now + 2, ws, []⟩ ∧ wi.ownsRow wr.heap.size 3 1 (.slice la R.length lc) R.length (ncl R) ∧ wi.rowIs sb 50 256 (fun q => .bool (decide (q ∈ R.take j)))) (fun v _ => R.length - (intOf v).toNat)
            case atStart => exact ⟨0, by omega, rfl, hDA, hlA, hrow0⟩
            case round =>
              clear hDA hlA hrow0
              obtain ⟨j, hj, rfl, hD, hl, hrow⟩ := hrel
              by_cases hjl : j < R.length
              · obtain ⟨lb, hlb⟩ := HLA.out (by omega)
                subst hlb
                obtain ⟨el, hel⟩ : ∃ el, el = R.getD j 0 := ⟨_, rfl⟩
                have hel2 : el < 256 := by rw [hel]; exact HRL.out j hjl
                have hc := hl.cells (g := lb) rfl j (.int .i64 (el : Nat)) (by rw [hel]; simp [ncl, hjl])
                rw [Addr.add_lit, Nat.zero_add] at hc
                have hs0 := hrow.cell (i := el) hel2
                have hs1 : decide (el ∈ R.take j) = false := by rw [hel]; exact decide_eq_false (HRN.out j hjl)
                rw [hs1] at hs0
                have hfz := hrow.frozen el
                have HEL := Lib.hid hel
                clear hel hs1
                go_wp2_with fail
                go_roundw
                case rel =>
                  have ub : Upto (· = sb) wr (wr.setCell ⟨sb, el, none⟩ (.bool true)) := (Upto.refl (fun k => k = sb) wr).setB rfl _
                  refine ⟨j + 1, by omega, by go_num, hD.gen ub (fun k hk hs => ?_) (fun k hk => ?_), ub.own hl (fun k hk e => by have := HL5.out k hk; have e' : k = sb := e; omega), (hrow.set el _).congr (fun q hq => ?_)⟩
                  · have hk' : k = sb := hk
                    have hs' := hs
                    rcases hs' with e | e | e
                    · omega
                    · omega
                    · have := HV5.out k e; omega
                  · have hk' : k = sb := hk
                    have := hD.hx; omega
                  · have ht : R.take (j + 1) = R.take j ++ [el] := by rw [List.take_succ_eq_append_getElem hjl, HEL.out]; simp [hjl]
                    rw [ht]
                    by_cases e : q = el
                    · rw [if_pos e, e]; simp
                    · rw [if_neg e]; simp [e]
                case measure => simp [intOf]; omega
              · have he : ((R.length : Int) == (wt.length : Int)) = true := by rw [HRl.out]; simp
                go_wp2_with (first
                  | (go_at_call 28; refine (DWait hD (n := 0) rfl).mono ?_; rintro e w' ⟨rfl, rfl⟩)
                  | (go_at_call 18; refine (DRipe hD (E' := ⟨now + 2, ws, []⟩) (r := []) rfl rfl).mono ?_; rintro e w7 ⟨l7, v7, rfl, hl7, hD7, _⟩; obtain ⟨a7, c7, hlv7, _⟩ := own_slice hl7; subst hlv7)
                  | (go_at_call 7; refine (waited_any _).mono ?_; rintro e w8 ⟨rfl, hu8⟩))
                go_ret
                exact ⟨rfl, hD7.bel.trans hu8⟩
end Go.Proofs.Ytmmhjibgmpdjoaa
