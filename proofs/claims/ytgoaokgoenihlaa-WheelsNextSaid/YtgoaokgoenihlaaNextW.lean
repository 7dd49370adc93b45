/- WheelsNext, walked. -/
import Derived.Test.YtgoaokgoenihlaaNextP
import Derived.Test.YtgoaokgoenihlaaWalkL
import Derived.Test.YtgoaokgoenihlaaOpen
namespace Go.Proofs.Ytgoaokgoenihlaa
open Go Go.RowKit Go.Deep Go.Maps

theorem ok_at {k : Nat} (h : k ≤ 100) : (⟨k, 0⟩ : Hn).Ok := ⟨by show -9223372036854775808 ≤ (k : Int); omega, by show (k : Int) ≤ 9223372036854775807; omega, by show (0 : Nat) < 4294967296; omega⟩
theorem li_at (k : Nat) : Lies ⟨k, 0⟩ (k : Nat) 0 := ⟨rfl, rfl⟩

set_option maxRecDepth 100000 in
set_option maxHeartbeats 4000000 in
theorem next_walk (a0 : Nat) (a : Option Addr) (len cap : Nat) (z : Nat → Nat) (w : World) (h0 : a0 < 256) (hm : len ≤ 9223372036854775807) (hz : DuesAt w a len z) :
    Calls Try.prog 3 #[.int .u8 a0, .slice a len cap] w (Told (.bool true) w) := by
  obtain ⟨n, hn⟩ : ∃ n, n = 1 + a0 % 64 := ⟨_, rfl⟩
  have hn1 : 1 ≤ n := by omega
  have hn2 : n ≤ 64 := by omega
  have hx : (1 : Int) + (a0 : Int) % 64 = n := by omega
  clear hn
  by_cases hlen : 100 < len
  · go_enter Try.func3, Try.ntmps3
    go_wp2_with (first
      | (go_at_call 8; refine (W_new w _ n hn1 hn2 (Upto.refl NoS w) (fun _ => False) (fun _ h => h.elim)).mono ?_; rintro e w1 ⟨x, O0, rfl, hW0, hu0⟩)
      | (go_at_call 9; refine (timed_any _).mono ?_; rintro e w2 ⟨rfl, hu⟩))
    go_ret
    exact ⟨rfl, hu0.trans hu⟩
  · have HZ := Lib.hid hz
    clear hz
    go_enter Try.func3, Try.ntmps3
    go_wp2_with (first
      | (go_at_call 8; refine (W_new w _ n hn1 hn2 (Upto.refl NoS w) (fun _ => False) (fun _ h => h.elim)).mono ?_; rintro e w1 ⟨x, O0, rfl, hW0, hu0⟩))
    have HW0 := Lib.hid hW0
    clear hx hW0 hu0
    go_loopw [7] (fun i wr => ∃ (k : Nat), k ≤ len ∧ i = .int .i64 k ∧ Hid (∃ O, WdO w wr x O ⟨n, 0, dk z k⟩ (fun _ => False))) (fun i _ => len - (intOf i).toNat)
    case atStart => exact ⟨0, by omega, rfl, Lib.hid ⟨O0, HW0.out⟩⟩
    case round =>
      clear HW0
      obtain ⟨k, hk, rfl, HD⟩ := hrel
      obtain ⟨O1, hW⟩ := HD.out
      by_cases hlt : k < len
      · obtain ⟨hzk, bo, off, ha, hbo, hc⟩ := HZ.out k hlt
        have hc1 := hW.u.keep hc id
        subst ha
        have z0 : (0 : Int) ≤ (k : Int) := by omega
        have z1 : (k : Int) < (len : Int) := by omega
        have hp := dk_put z n k hzk
        have HP := Lib.hid (W_put_to hW ⟨k, 0⟩ (z k : Nat) (li_at k) (ok_at (by omega)) (by show (dk z k).length < _; rw [dk_len]; omega) hp.1 hp.2)
        clear hc hp HD hW
        go_wp2_with (go_at_call 10; ((with_reducible refine HP.out.mono ?_); rintro e w9 ⟨rfl, O9, hW9, hu9⟩))
        go_roundw
        case rel => exact ⟨k + 1, by omega, by go_num, Lib.hid ⟨O9, hW9⟩⟩
        case measure => simp [intOf]; omega
      · obtain rfl : k = len := by omega
        have hNI : NI z k ⟨n, 0, dk z k⟩ := ⟨List.Sublist.refl _, fun _ _ => .inr rfl⟩
        have hEl : (⟨n, 0, dk z k⟩ : Wh).E.length = k := dk_len z k
        have HNI := Lib.hid hNI
        have HEL := Lib.hid hEl
        have HD0 := Lib.hid (⟨O1, hW⟩ : ∃ O, WdO w wr x O ⟨n, 0, dk z k⟩ (fun _ => False))
        clear HD hNI hEl hW
        go_wp2_with fail
        go_loopw [8] (fun v wr => ∃ (l : Nat) (S : Wh), l ≤ k ∧ v = .int .i64 l ∧ Hid (NI z k S) ∧ Hid (S.E.length = l) ∧ Hid (∃ O, WdO w wr x O S (fun _ => False))) (fun v _ => (intOf v).toNat)
        case atStart => exact ⟨k, _, by omega, rfl, HNI, HEL, HD0⟩
        case round =>
          clear HNI HEL HD0
          obtain ⟨l, S, hl, rfl, HN, HL, HD⟩ := hrel
          obtain ⟨O2, hW⟩ := HD.out
          have hzz : ∀ j, j < k → z j ≤ 4294967295 := fun j hj => (HZ.out j hj).1
          have HZZ := Lib.hid hzz
          by_cases hl0 : 0 < l
          · have hE : S.E ≠ [] := fun e => by have := HL.out; rw [e] at this; simp at this; omega
            obtain ⟨m, hmm⟩ : ∃ m, m = nx S.E := ⟨_, rfl⟩
            have hm1 := HN.out.le hzz hE
            rw [← hmm] at hm1
            have hmx : ¬ (4294967296 : Int) < (m : Nat) := by omega
            have hmy : ¬ ((m : Nat) : Int) < 0 := by omega
            have hnv : nextV S.E = .tuple #[.int .i64 (m : Nat), .bool true] := by unfold nextV; rw [ok_cons hE, hmm]
            have HNV := Lib.hid (W_next_to hW hnv)
            have HE := Lib.hid hE
            have HMM := Lib.hid hmm
            clear hzz hnv hW hE hmm HD
            go_upto_if 82 with (go_at_call 11; refine HNV.out.mono ?_; rintro e w9 ⟨rfl, O9, hW9, hu9⟩)
            go_cut [] (fun wr => Hid (∃ O S', WdO w wr x O S' (fun _ => False) ∧ NI z k S' ∧ S'.E = S.E ∧ S'.last ≤ m ∧ S'.n = S.n))
            case first =>
              by_cases hm0 : 0 < m
              · have hb := HN.out.below HZZ.out HE.out (by rw [← HMM.out]; exact hm0)
                rw [← HMM.out] at hb
                have HT := Lib.hid (W_turn_to hW9 _ hb.1 hb.2.1 hb.2.2.1 rfl)
                have HB := Lib.hid hb.2.2.2
                clear hb
                go_wp2_with (go_at_call 12; refine HT.out.mono ?_; rintro e w8 ⟨a8, c8, rfl, o8, hW8, hu8⟩)
                go_meet
                case rel => exact Lib.hid ⟨_, _, hW8.mono (fun _ h => h.elim), HB.out, rfl, by show m - 1 ≤ m; omega, rfl⟩
              · have hb1 : decide (0 < m) = false := by simpa using hm0
                have hb2 : decide ((0 : Int) < ((m : Nat) : Int)) = false := by simp; omega
                go_wp2_with fail
                go_meet
                case rel => exact Lib.hid ⟨_, _, hW9, HN.out, rfl, by rw [HMM.out]; exact (HN.out.last HE.out).1, rfl⟩
            case rest =>
              obtain ⟨O7, S', hW7, hN7, hE7, hl7, hn7⟩ := hcut.out
              have hE7' : S'.E ≠ [] := by rw [hE7]; exact HE.out
              have hnx : nx S'.E = m := by rw [hE7, HMM.out]
              obtain ⟨L, g1, g2, g3, g4, g5, g6, J, gJ, gS⟩ := hN7.at_ hW7.ok HZZ.out hE7'
              rw [hnx] at g1 g2 g3 g4 g6 gJ
              obtain ⟨q, hq⟩ : ∃ q, L.length = q := ⟨_, rfl⟩
              rw [hq] at g5 g6 gJ gS
              have hql : q ≤ l := by have := HL.out; rw [hE7] at g6; omega
              have hq0 : ((q : Int) == 0) = false := by rw [beq_eq_false_iff_ne]; omega
              have HT := Lib.hid (W_turn_to hW7 _ g1 g2 g3 hq)
              have HG4 := Lib.hid g4
              have HG6 := Lib.hid (show (S'.turn m).E.length = l - q by have := HL.out; rw [hE7] at g6; omega)
              have HJ := Lib.hid gJ
              have HS := Lib.hid gS
              have HQ := Lib.hid hq
              have HEE := Lib.hid hE7
              clear hW7 hN7 hE7 hl7 hn7 hE7' hnx g1 g2 g3 g4 g6 gJ gS hq hcut HNV HN HL hW9 hu9 HMM HE
              go_wp2_with (go_at_call 12; refine HT.out.mono ?_; rintro e w8 ⟨a8, c8, rfl, o8, hW8, hu8⟩; have HO8 := Lib.hid o8; have HW8 := Lib.hid hW8; clear o8 hW8 hu8)
              go_loopw [15] (fun i wr => ∃ (t n' : Nat), t ≤ q ∧ i = .int .i64 t ∧ wr = w8.drewN n') (fun i _ => q - (intOf i).toNat)
              case atStart => exact ⟨0, 0, by omega, rfl, rfl⟩
              case round =>
                obtain ⟨t, n', ht, rfl, rfl⟩ := hrel
                by_cases hlt2 : t < q
                · have ho := HO8.out
                  rw [HQ.out] at ho
                  obtain ⟨qb, cp, e8, _⟩ := own_form ho (by omega)
                  simp only [Value.slice.injEq, true_and] at e8
                  obtain ⟨rfl, rfl⟩ := e8
                  have htL : t < L.length := by rw [HQ.out]; exact hlt2
                  obtain ⟨j1, j2, j3, j4⟩ := HJ.out t hlt2
                  obtain ⟨_, bo, off, ha, hbo, hc⟩ := HZ.out (J t) j1
                  subst ha
                  have d0 := HW8.out.u.keep hc id
                  rw [j4] at d0
                  have s0 := (own_hcl ho t htL).1
                  rw [j2] at s0
                  have t0 : (0 : Int) ≤ (t : Int) := by omega
                  have t1 : (t : Int) < (q : Int) := by omega
                  have u0 : (0 : Int) ≤ (J t : Int) := by omega
                  have u1 : (J t : Int) < (k : Int) := by omega
                  have b1 : decide (((J t : Nat) : Int) < 0) = false := by simp
                  have b2 : decide (k ≤ J t) = false := by simp; omega
                  have b2' : decide (((k : Nat) : Int) ≤ ((J t : Nat) : Int)) = false := by simp; omega
                  have b3 : (((m : Nat) : Int) != ((m : Nat) : Int)) = false := by simp
                  have JB := Lib.hid j1
                  have hwm : IntKind.i64.wrap ((m : Nat) : Int) = ((m : Nat) : Int) := IntWalk.i64_in _ (by omega)
                  cases t with
                  | zero =>
                    clear j1 j2 j3 j4 hc ho
                    go_wp2_with fail
                    go_quiet (fail)
                    go_wp2_with fail
                    go_roundw
                    case rel => exact ⟨1, n' + nq, by omega, rfl, (by first | rfl | exact drewN_two w8 n' nq)⟩
                    case measure => simp [intOf]; omega
                  | succ t =>
                    obtain ⟨i1, i2, i3, i4⟩ := HJ.out t (by omega)
                    have r0 := (own_hcl ho t (by omega)).1
                    rw [i2] at r0
                    have hlt3 := HS.out t (by omega)
                    have v0 : (0 : Int) ≤ (t : Int) := by omega
                    have v1 : (t : Int) < (q : Int) := by omega
                    have b4 : decide (J (t + 1) ≤ J t) = false := by simp; omega
                    have b4' : decide (((J (t + 1) : Nat) : Int) ≤ ((J t : Nat) : Int)) = false := by simp; omega
                    have b5 : decide ((0 : Int) < ((t + 1 : Nat) : Int)) = true := decide_eq_true (by omega)
                    clear i1 i2 i3 i4 j1 j2 j3 j4 hc ho hlt3
                    go_wp2_with fail
                    go_quiet (fail)
                    go_wp2_with fail
                    go_roundw
                    case rel => exact ⟨t + 2, n' + nq, by omega, by go_num, (by first | rfl | exact drewN_two w8 n' nq)⟩
                    case measure => simp [intOf]; omega
                · obtain rfl : t = q := by omega
                  go_wp2_with fail
                  go_roundw
                  case rel => exact ⟨l - t, _, by omega, by go_num, HG4, HG6, Lib.hid ⟨_, (HW8.out.quiet ((Upto.refl NoS w8).drewN n')).mono (fun _ h => h.elim)⟩⟩
                  case measure => simp [intOf]; omega
          · obtain rfl : l = 0 := by omega
            have hE : S.E = [] := List.length_eq_zero_iff.1 HL.out
            have hnv : nextV S.E = .tuple #[.int .i64 0, .bool false] := by rw [hE]; rfl
            have HNV := Lib.hid (W_next_to hW hnv)
            have hE0 : S.E.length = 0 := by rw [hE]; rfl
            have HE0 := Lib.hid hE0
            clear hE hnv hW hzz HD hE0
            go_wp2_with (first
              | (go_at_call 11; refine HNV.out.mono ?_; rintro e w9 ⟨rfl, O9, hW9, hu9⟩)
              | (go_at_call 13; refine (W_count hW9).mono ?_; rintro e w8 ⟨rfl, rfl⟩; rw [HE0.out])
              | (go_at_call 9; refine (timed_any _).mono ?_; rintro e w2 ⟨rfl, hu⟩))
            go_ret
            exact ⟨rfl, hW9.u.trans hu⟩
end Go.Proofs.Ytgoaokgoenihlaa
