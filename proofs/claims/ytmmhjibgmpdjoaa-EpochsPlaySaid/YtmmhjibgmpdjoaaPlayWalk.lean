/- EpochsPlay, walked. -/
import Derived.Test.YtmmhjibgmpdjoaaRefD
namespace Go.Proofs.Ytmmhjibgmpdjoaa
open Go Go.RowKit Go.Deep Md

theorem Md.EI.rip {n k : Nat} {E : Ep} (h : EI n k E) : EI n (k + 1) (ripeSt E) := by
  refine ⟨h.len, by have := h.now; show E.now ≤ _; omega, ?_, ?_⟩
  · have := h.many
    exact Nat.le_trans (List.length_filter_le _ _) (by omega)
  · exact (List.Sublist.map Prod.fst (List.filter_sublist)).nodup h.nodup
theorem within_9 (w : World) (n : Int) : Calls Try.prog 10 #[.int .i64 n, .int .i64 9] w fun e w' => e = .returned (.int .i64 (withinN n 9 : Nat)) ∧ w = w' := within_any w n 9 (by omega) (by omega)

set_option maxRecDepth 100000 in
set_option maxHeartbeats 4000000 in
theorem play_walk (n0 : Int) (a0 : Option Addr) (len cap : Nat) (z : Nat → ActV) (w : World) (_h1 : -9223372036854775808 ≤ n0) (_h2 : n0 ≤ 9223372036854775807) (hm : len ≤ 9223372036854775807) (hz : ActsAt w a0 len z) :
    Calls Try.prog 3 #[.int .i64 n0, .slice a0 len cap] w (Told (.bool true) w) := by
  by_cases hlen : 200 < len
  · go_enter Try.func3, Try.ntmps3
    go_wp2_with (go_at_call 7; refine (waited_any _).mono ?_; rintro e w2 ⟨rfl, hu⟩)
    go_ret
    exact ⟨rfl, hu⟩
  · by_cases hbad : n0 < 1 ∨ 64 < n0
    · go_enter Try.func3, Try.ntmps3
      go_wp2_with (first
        | (go_at_call 8; refine (New_err _ _ hbad).mono ?_; rintro e w1 ⟨rfl, rfl⟩)
        | (go_at_call 9; refine (New_r_err _ _ hbad).mono ?_; rintro e w1 ⟨rfl, rfl⟩)
        | (go_at_call 7; refine (waited_any _).mono ?_; rintro e w2 ⟨rfl, hu⟩))
      go_ret
      exact ⟨rfl, hu⟩
    · obtain ⟨n, rfl⟩ := Int.eq_ofNat_of_zero_le (by omega : 0 ≤ n0)
      have hn1 : 1 ≤ n := by omega
      have hn2 : n ≤ 64 := by omega
      clear hbad _h1 _h2
      go_enter Try.func3, Try.ntmps3
      go_wp2_with (first
        | (go_at_call 8; refine (DNew n hn1 hn2).mono ?_; rintro e w1 ⟨x, g, rfl, hD⟩)
        | (go_at_call 9; refine (New_r _ n hn1 hn2).mono ?_; rintro e w2 ⟨s, cs, rfl, hR, hu2⟩))
      have hxl := hD.at_.lt
      have hP : PP w w2 x g (.slice none 0 0) w1.heap.size s cs (.slice none 0 0) (fresh n) (fresh n) :=
        ⟨hD.at_.upto hu2, hR, hD.bel.trans hu2, hD.hg, hxl, fun k hk => by simp [Value.ownBlock] at hk, fun k hk => by simp [Value.ownBlock] at hk⟩
      have hI := EI.start n
      clear hD hR hu2 hxl
      generalize w1.heap.size = y at hP ⊢
      go_loopw [9] (fun i wr => ∃ (k : Nat) (vt vl : Value) (E : Ep), k ≤ len ∧ i = .int .i64 k ∧ PP w wr x g vt y s cs vl E E ∧ EI n k E) (fun i _ => len - (intOf i).toNat)
      case atStart => exact ⟨0, _, _, _, by omega, rfl, hP, hI⟩
      case round =>
        clear hP hI
        obtain ⟨k, vt, vl, E, hk, rfl, hP, hI⟩ := hrel
        by_cases hlt : k < len
        · obtain ⟨hzk, bo, off, ha, hbo, hA⟩ := hz k hlt
          have hAr := hA.upto hP.bel
          obtain ⟨g1, g2, g3⟩ := hAr
          subst ha
          obtain ⟨r, hr⟩ : ∃ r : Nat, (((z k).kind : Nat) : Int) % 11 = r := ⟨(z k).kind % 11, by simp⟩
          have hr11 : r < 11 := by omega
          have hkn := hzk.1
          obtain ⟨hw1, hw2⟩ := hzk.2.1
          obtain ⟨hs1, hs2⟩ := hzk.2.2
          have hnow := hI.now
          have hmany := hI.many
          have z0 : (0 : Int) ≤ (k : Int) := by omega
          have z1 : (k : Int) < (len : Int) := by omega
          clear hzk hA hz
          go_upto_region 12 with (fail)
          go_quiet (fail)
          replace hP := hP.upto ((Upto.refl _ _).drewN nq)
          have G1 : (wr.drewN nq).cell? ⟨bo, off + k * 3, none⟩ = some (.int .u8 ((z k).kind : Nat)) := g1
          generalize wr.drewN nq = W1 at hP G1 ⊢
          clear g1 g2 g3
          go_upto_if 62 with (fail)
          go_cut [10, 11] (fun u v wc => ∃ a b : Int, u = .int .i64 a ∧ v = .int .i64 b ∧ (-9223372036854775808 ≤ a ∧ a ≤ 9223372036854775807) ∧ (-9223372036854775808 ≤ b ∧ b ≤ 9223372036854775807) ∧ wc = W1)
          case first =>
            by_cases h8 : r < 8
            · have hs9 : withinN (z k).slot 9 < 9 := withinN_lt _ (by omega)
              have hwn : withinN (z k).who n < n := withinN_lt _ (by omega)
              go_wp2_with (first
                | (go_at_call 10; ((with_reducible refine (within_any _ (z k).who n hn1 (by omega)).mono ?_); rintro e w' ⟨rfl, rfl⟩))
                | (go_at_call 10; ((with_reducible refine (within_9 _ (z k).slot).mono ?_); rintro e w' ⟨rfl, rfl⟩)))
              go_meet
              case rel => exact ⟨_, _, rfl, rfl, ⟨by omega, by omega⟩, ⟨by omega, by omega⟩, rfl⟩
            · go_wp2_with fail
              go_meet
              case rel => exact ⟨_, _, rfl, rfl, ⟨hw1, hw2⟩, ⟨hs1, hs2⟩, rfl⟩
          case rest =>
            obtain ⟨a, b, rfl, rfl, ⟨ha1, ha2⟩, ⟨hb1, hb2⟩, rfl⟩ := hcut
            clear hw1 hw2 hs1 hs2
            go_upto_block 2 with (fail)
            rw [hr]
            clear hr G1
            go_cut [12] (fun v wd => v = .bool true ∧ ∃ (vt' vl' : Value) (E' : Ep), PP w wd x g vt' y s cs vl' E' E' ∧ EI n (k + 1) E')
            case first =>
              rcases (show r = 0 ∨ r = 1 ∨ r = 2 ∨ r = 3 ∨ r = 4 ∨ r = 5 ∨ r = 6 ∨ r = 7 ∨ r = 8 ∨ r = 9 ∨ r = 10 by omega) with hc | hc | hc | hc | hc | hc | hc | hc | hc | hc | hc
              · subst hc
                have e0 : ((0 : Int) == 0) = true := rfl
                have e1 : ((0 : Int) == 1) = false := rfl
                have e8 : ((0 : Int) == 8) = false := rfl
                have e2 : ((0 : Int) == 2) = false := rfl
                have e9 : ((0 : Int) == 9) = false := rfl
                have e3 : ((0 : Int) == 3) = false := rfl
                have e4 : ((0 : Int) == 4) = false := rfl
                have e7 : ((0 : Int) == 7) = false := rfl
                obtain ⟨c, hc⟩ : ∃ c, annE E a = c := ⟨_, rfl⟩
                have HC := Lib.hid hc
                have hcc : (c == c) = true := by simp
                clear hc
                go_wp2_with (first
                  | (go_at_call 11; refine (PEnter hP a rfl HC.out).mono ?_; rintro e w2 ⟨rfl, v2, l2, hP⟩)
                  | (go_at_call 12; refine (PEnterR hP a rfl HC.out).mono ?_; rintro e w2 ⟨rfl, v2, l2, hP⟩))
                go_meet
                case rel => exact ⟨rfl, _, _, _, hP, hI.ann _ _⟩
              · subst hc
                have e0 : ((1 : Int) == 0) = false := rfl
                have e1 : ((1 : Int) == 1) = true := rfl
                have e8 : ((1 : Int) == 8) = false := rfl
                have e2 : ((1 : Int) == 2) = false := rfl
                have e9 : ((1 : Int) == 9) = false := rfl
                have e3 : ((1 : Int) == 3) = false := rfl
                have e4 : ((1 : Int) == 4) = false := rfl
                have e7 : ((1 : Int) == 7) = false := rfl
                obtain ⟨c, hc⟩ : ∃ c, annE E a = c := ⟨_, rfl⟩
                have HC := Lib.hid hc
                have hcc : (c == c) = true := by simp
                clear hc
                go_wp2_with (first
                  | (go_at_call 11; refine (PEnter hP a rfl HC.out).mono ?_; rintro e w2 ⟨rfl, v2, l2, hP⟩)
                  | (go_at_call 12; refine (PEnterR hP a rfl HC.out).mono ?_; rintro e w2 ⟨rfl, v2, l2, hP⟩))
                go_meet
                case rel => exact ⟨rfl, _, _, _, hP, hI.ann _ _⟩
              · subst hc
                have e0 : ((2 : Int) == 0) = false := rfl
                have e1 : ((2 : Int) == 1) = false := rfl
                have e8 : ((2 : Int) == 8) = false := rfl
                have e2 : ((2 : Int) == 2) = true := rfl
                have e9 : ((2 : Int) == 9) = false := rfl
                have e3 : ((2 : Int) == 3) = false := rfl
                have e4 : ((2 : Int) == 4) = false := rfl
                have e7 : ((2 : Int) == 7) = false := rfl
                obtain ⟨c, hc⟩ : ∃ c, annE E a = c := ⟨_, rfl⟩
                have HC := Lib.hid hc
                have hcc : (c == c) = true := by simp
                clear hc
                go_wp2_with (first
                  | (go_at_call 13; refine (PLeave hP a rfl HC.out).mono ?_; rintro e w2 ⟨rfl, v2, l2, hP⟩)
                  | (go_at_call 14; refine (PLeaveR hP a rfl HC.out).mono ?_; rintro e w2 ⟨rfl, v2, l2, hP⟩))
                go_meet
                case rel => exact ⟨rfl, _, _, _, hP, hI.ann _ _⟩
              · subst hc
                have e0 : ((3 : Int) == 0) = false := rfl
                have e1 : ((3 : Int) == 1) = false := rfl
                have e8 : ((3 : Int) == 8) = false := rfl
                have e2 : ((3 : Int) == 2) = false := rfl
                have e9 : ((3 : Int) == 9) = false := rfl
                have e3 : ((3 : Int) == 3) = true := rfl
                have e4 : ((3 : Int) == 4) = false := rfl
                have e7 : ((3 : Int) == 7) = false := rfl
                obtain ⟨c, hc⟩ : ∃ c, advB E = c := ⟨_, rfl⟩
                have HC := Lib.hid hc
                have hcc : (c == c) = true := by simp
                clear hc
                go_wp2_with (first
                  | (go_at_call 15; refine (PAdv hP (by omega) rfl HC.out).mono ?_; rintro e w2 ⟨rfl, v2, l2, hP⟩)
                  | (go_at_call 16; refine (PAdvR hP (by omega) rfl HC.out).mono ?_; rintro e w2 ⟨rfl, v2, l2, hP⟩))
                go_meet
                case rel => exact ⟨rfl, _, _, _, hP, hI.adv⟩
              · subst hc
                have e0 : ((4 : Int) == 0) = false := rfl
                have e1 : ((4 : Int) == 1) = false := rfl
                have e8 : ((4 : Int) == 8) = false := rfl
                have e2 : ((4 : Int) == 2) = false := rfl
                have e9 : ((4 : Int) == 9) = false := rfl
                have e3 : ((4 : Int) == 3) = false := rfl
                have e4 : ((4 : Int) == 4) = true := rfl
                have e7 : ((4 : Int) == 7) = false := rfl
                obtain ⟨c, hc⟩ : ∃ c, advB E = c := ⟨_, rfl⟩
                have HC := Lib.hid hc
                have hcc : (c == c) = true := by simp
                clear hc
                go_wp2_with (first
                  | (go_at_call 15; refine (PAdv hP (by omega) rfl HC.out).mono ?_; rintro e w2 ⟨rfl, v2, l2, hP⟩)
                  | (go_at_call 16; refine (PAdvR hP (by omega) rfl HC.out).mono ?_; rintro e w2 ⟨rfl, v2, l2, hP⟩))
                go_meet
                case rel => exact ⟨rfl, _, _, _, hP, hI.adv⟩
              · subst hc
                have e0 : ((5 : Int) == 0) = false := rfl
                have e1 : ((5 : Int) == 1) = false := rfl
                have e8 : ((5 : Int) == 8) = false := rfl
                have e2 : ((5 : Int) == 2) = false := rfl
                have e9 : ((5 : Int) == 9) = false := rfl
                have e3 : ((5 : Int) == 3) = false := rfl
                have e4 : ((5 : Int) == 4) = false := rfl
                have e7 : ((5 : Int) == 7) = false := rfl
                obtain ⟨c, hc⟩ : ∃ c, defE E b = c := ⟨_, rfl⟩
                have HC := Lib.hid hc
                have hcc : (c == c) = true := by simp
                clear hc
                go_wp2_with (first
                  | (go_at_call 20; refine (PDef hP b hb1 hb2 (by omega) rfl HC.out).mono ?_; rintro e w2 ⟨rfl, v2, l2, hP⟩)
                  | (go_at_call 21; refine (PDefR hP b hb1 hb2 (by omega) rfl HC.out).mono ?_; rintro e w2 ⟨rfl, v2, l2, hP⟩))
                go_meet
                case rel => exact ⟨rfl, _, _, _, hP, hI.dfr _⟩
              · subst hc
                have e0 : ((6 : Int) == 0) = false := rfl
                have e1 : ((6 : Int) == 1) = false := rfl
                have e8 : ((6 : Int) == 8) = false := rfl
                have e2 : ((6 : Int) == 2) = false := rfl
                have e9 : ((6 : Int) == 9) = false := rfl
                have e3 : ((6 : Int) == 3) = false := rfl
                have e4 : ((6 : Int) == 4) = false := rfl
                have e7 : ((6 : Int) == 7) = false := rfl
                obtain ⟨c, hc⟩ : ∃ c, defE E b = c := ⟨_, rfl⟩
                have HC := Lib.hid hc
                have hcc : (c == c) = true := by simp
                clear hc
                go_wp2_with (first
                  | (go_at_call 20; refine (PDef hP b hb1 hb2 (by omega) rfl HC.out).mono ?_; rintro e w2 ⟨rfl, v2, l2, hP⟩)
                  | (go_at_call 21; refine (PDefR hP b hb1 hb2 (by omega) rfl HC.out).mono ?_; rintro e w2 ⟨rfl, v2, l2, hP⟩))
                go_meet
                case rel => exact ⟨rfl, _, _, _, hP, hI.dfr _⟩
              · subst hc
                have e0 : ((7 : Int) == 0) = false := rfl
                have e1 : ((7 : Int) == 1) = false := rfl
                have e8 : ((7 : Int) == 8) = false := rfl
                have e2 : ((7 : Int) == 2) = false := rfl
                have e9 : ((7 : Int) == 9) = false := rfl
                have e3 : ((7 : Int) == 3) = false := rfl
                have e4 : ((7 : Int) == 4) = false := rfl
                have e7 : ((7 : Int) == 7) = true := rfl
                obtain ⟨R, hc⟩ : ∃ R, ripe E = R := ⟨_, rfl⟩
                have hRl : R.length ≤ 1000000 := by rw [← hc]; have := ripeK_le E.now E.wt E.wt.length; rw [ripeK_all] at this; omega
                have HC := Lib.hid hc
                have hys := hP.rf.ys
                clear hc
                go_wp2_with (first
                  | (go_at_call 18; refine (PRipe hP (r := R) rfl HC.out).mono ?_; rintro e w2 ⟨⟨l1, v2, l2, rfl, hl1, hP⟩, hsz, _⟩)
                  | (go_at_call 19; refine (PRipeR hP hl1 (by omega) (r := R) rfl HC.out).mono ?_; rintro e w3 ⟨⟨l3, v3, l4, rfl, hl3, hP⟩, hl1'⟩)
                  | (go_at_call 17; refine (same_yes _ _ _ _ _ R hl1' hl3 hRl).mono ?_; rintro e w4 ⟨rfl, hu4⟩; replace hP := hP.upto hu4))
                go_meet
                case rel => exact ⟨rfl, _, _, _, hP, hI.rip⟩
              · subst hc
                have e0 : ((8 : Int) == 0) = false := rfl
                have e1 : ((8 : Int) == 1) = false := rfl
                have e8 : ((8 : Int) == 8) = true := rfl
                have e2 : ((8 : Int) == 2) = false := rfl
                have e9 : ((8 : Int) == 9) = false := rfl
                have e3 : ((8 : Int) == 3) = false := rfl
                have e4 : ((8 : Int) == 4) = false := rfl
                have e7 : ((8 : Int) == 7) = false := rfl
                obtain ⟨c, hc⟩ : ∃ c, annE E a = c := ⟨_, rfl⟩
                have HC := Lib.hid hc
                have hcc : (c == c) = true := by simp
                clear hc
                go_wp2_with (first
                  | (go_at_call 11; refine (PEnter hP a rfl HC.out).mono ?_; rintro e w2 ⟨rfl, v2, l2, hP⟩)
                  | (go_at_call 12; refine (PEnterR hP a rfl HC.out).mono ?_; rintro e w2 ⟨rfl, v2, l2, hP⟩))
                go_meet
                case rel => exact ⟨rfl, _, _, _, hP, hI.ann _ _⟩
              · subst hc
                have e0 : ((9 : Int) == 0) = false := rfl
                have e1 : ((9 : Int) == 1) = false := rfl
                have e8 : ((9 : Int) == 8) = false := rfl
                have e2 : ((9 : Int) == 2) = false := rfl
                have e9 : ((9 : Int) == 9) = true := rfl
                have e3 : ((9 : Int) == 3) = false := rfl
                have e4 : ((9 : Int) == 4) = false := rfl
                have e7 : ((9 : Int) == 7) = false := rfl
                obtain ⟨c, hc⟩ : ∃ c, annE E a = c := ⟨_, rfl⟩
                have HC := Lib.hid hc
                have hcc : (c == c) = true := by simp
                clear hc
                go_wp2_with (first
                  | (go_at_call 13; refine (PLeave hP a rfl HC.out).mono ?_; rintro e w2 ⟨rfl, v2, l2, hP⟩)
                  | (go_at_call 14; refine (PLeaveR hP a rfl HC.out).mono ?_; rintro e w2 ⟨rfl, v2, l2, hP⟩))
                go_meet
                case rel => exact ⟨rfl, _, _, _, hP, hI.ann _ _⟩
              · subst hc
                have e0 : ((10 : Int) == 0) = false := rfl
                have e1 : ((10 : Int) == 1) = false := rfl
                have e8 : ((10 : Int) == 8) = false := rfl
                have e2 : ((10 : Int) == 2) = false := rfl
                have e9 : ((10 : Int) == 9) = false := rfl
                have e3 : ((10 : Int) == 3) = false := rfl
                have e4 : ((10 : Int) == 4) = false := rfl
                have e7 : ((10 : Int) == 7) = false := rfl
                obtain ⟨c, hc⟩ : ∃ c, defE E b = c := ⟨_, rfl⟩
                have HC := Lib.hid hc
                have hcc : (c == c) = true := by simp
                clear hc
                go_wp2_with (first
                  | (go_at_call 20; refine (PDef hP b hb1 hb2 (by omega) rfl HC.out).mono ?_; rintro e w2 ⟨rfl, v2, l2, hP⟩)
                  | (go_at_call 21; refine (PDefR hP b hb1 hb2 (by omega) rfl HC.out).mono ?_; rintro e w2 ⟨rfl, v2, l2, hP⟩))
                go_meet
                case rel => exact ⟨rfl, _, _, _, hP, hI.dfr _⟩
            case rest =>
              clear hP hI
              obtain ⟨rfl, vt', vl', E', hP, hI⟩ := hcut
              obtain ⟨c1, h1⟩ : ∃ c : Int, (E'.now : Int) = c := ⟨_, rfl⟩
              obtain ⟨c2, h2⟩ : ∃ q : Bool, (seenI E' a != -1) = q := ⟨_, rfl⟩
              obtain ⟨c3, h3⟩ : ∃ c : Int, seenI E' a = c := ⟨_, rfl⟩
              obtain ⟨c4, h4⟩ : ∃ c : Int, (E'.wt.length : Int) = c := ⟨_, rfl⟩
              replace h1 := Lib.hid h1
              replace h2 := Lib.hid h2
              replace h3 := Lib.hid h3
              replace h4 := Lib.hid h4
              have n1 : (c1 != c1) = false := by simp
              have n2 : (c2 != c2) = false := by simp
              have n3 : (c3 != c3) = false := by simp
              have n4 : (c4 != c4) = false := by simp
              go_wp2_with (first
                | (go_at_call 22; refine (PNow hP h1.out).mono ?_; rintro e w' ⟨rfl, rfl⟩)
                | (go_at_call 23; refine (PNowR hP h1.out).mono ?_; rintro e w' ⟨rfl, rfl⟩)
                | (go_at_call 24; refine (PIn hP a h2.out).mono ?_; rintro e w' ⟨rfl, rfl⟩)
                | (go_at_call 25; refine (PInR hP a h2.out).mono ?_; rintro e w' ⟨rfl, rfl⟩)
                | (go_at_call 26; refine (PSeen hP a h3.out).mono ?_; rintro e w' ⟨rfl, rfl⟩)
                | (go_at_call 27; refine (PSeenR hP a h3.out).mono ?_; rintro e w' ⟨rfl, rfl⟩)
                | (go_at_call 28; refine (PWait hP h4.out).mono ?_; rintro e w' ⟨rfl, rfl⟩)
                | (go_at_call 29; refine (PWaitR hP h4.out).mono ?_; rintro e w' ⟨rfl, rfl⟩))
              go_roundw
              case rel => first | exact ⟨k + 1, _, _, _, by omega, by go_num, hP, hI⟩ | ((repeat apply Exists.intro); refine ⟨?_, rfl⟩; exact ⟨k + 1, _, _, _, by omega, by go_num, hP, hI⟩)
              case measure => simp [intOf]; omega
        · have hbl := hP.bel
          clear hI
          go_wp2_with (go_at_call 7; refine (waited_any _).mono ?_; rintro e w5 ⟨rfl, hu5⟩)
          go_ret
          exact ⟨rfl, hbl.trans hu5⟩
end Go.Proofs.Ytmmhjibgmpdjoaa
