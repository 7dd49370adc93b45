/- WheelsOnce, walked. -/
import Derived.Test.YtgoaokgoenihlaaOnceP
import Derived.Test.YtgoaokgoenihlaaLastOp
namespace Go.Proofs.Ytgoaokgoenihlaa
open Go Go.RowKit Go.Deep Go.Maps

abbrev drow (f : Nat → Int) (j : Nat) : Value := .int .i64 (f j)
theorem WdO.writeK {w wr w' : World} {x b : Nat} {O K : Nat → Prop} {S : Wh} (h : WdO w wr x O S K) (hu : Upto (fun k => k = b) wr w') (hK : K b) (hlo : w.heap.size ≤ b) : WdO w w' x O S K :=
  h.other hu (fun k e => by rw [show k = b from e]; exact h.apart b hK) (fun k e => by rw [show k = b from e]; exact hlo)
theorem cntD_le (E : List Tm) (k : Nat) : cntD E k ≤ k := by
  unfold cntD
  exact Nat.le_trans (List.length_filter_le _ _) (by simp)
theorem arr18 (w : World) : (w.alloc (.cells (Array.replicate 18 (.int .i64 0)) 40)).rowIs w.heap.size 40 18 (drow fun _ => 0) :=
  World.rowIs_alloc w (Array.replicate 18 (.int .i64 0)) 40 _ (fun i hi => by
    have : i < 18 := by simpa using hi
    simp [drow, this])

set_option maxRecDepth 100000 in
set_option maxHeartbeats 16000000 in
theorem once_walk (a0 : Nat) (a : Option Addr) (len cap : Nat) (z : Nat → ActV) (w : World) (h0 : a0 < 256) (hm : len ≤ 9223372036854775807) (hz : ActsAt w a len z) :
    Calls Try.prog 4 #[.int .u8 a0, .slice a len cap] w (Told (.bool true) w) := by
  obtain ⟨n, hn⟩ : ∃ n, n = 1 + a0 % 64 := ⟨_, rfl⟩
  have hn1 : 1 ≤ n := by omega
  have hn2 : n ≤ 64 := by omega
  have hx : (1 : Int) + (a0 : Int) % 64 = n := by omega
  clear hn
  have HZ := Lib.hid hz
  clear hz
  by_cases hlen : 150 < len
  · go_enter Try.func4, Try.ntmps4
    go_wp2_with (first
      | (go_at_call 8; refine (W_new w _ n hn1 hn2 (Upto.refl NoS w) (fun _ => False) (fun _ h => h.elim)).mono ?_; rintro e w1 ⟨x, O0, rfl, hW0, hu0⟩)
      | (go_at_call 9; refine (timed_any _).mono ?_; rintro e w2 ⟨rfl, hu⟩))
    go_ret
    exact ⟨rfl, hu0.trans hu⟩
  · go_enter Try.func4, Try.ntmps4
    go_wp2_with (first
      | (go_at_call 8; refine (W_new w _ n hn1 hn2 (Upto.refl NoS w) (fun _ => False) (fun _ h => h.elim)).mono ?_; rintro e w1 ⟨x, O0, rfl, hW0, hu0⟩))
    have hR0 := arr18 w1
    have hW1 := hW0.add (K' := fun i => i = w1.heap.size) ((Upto.refl NoS w1).alloc (.cells (Array.replicate 18 (.int .i64 0)) 40)) (fun i (e : i = _) => .inr ⟨by rw [e]; exact Nat.le_refl _, by rw [e]; simp⟩)
    have hwb : w.heap.size ≤ w1.heap.size := hu0.size
    clear hx hW0 hu0
    go_wp2_with fail
    change Code.wp _ _ _ _ (w1.alloc (.cells (Array.replicate 18 (.int .i64 0)) 40))
    generalize w1.alloc (.cells (Array.replicate 18 (.int .i64 0)) 40) = W0 at hR0 hW1 ⊢
    generalize w1.heap.size = b at hR0 hW1 hwb ⊢
    have HR0 := Lib.hid hR0
    have HW1 := Lib.hid hW1
    clear hR0 hW1
    go_loopw [8] (fun i wr => ∃ k : Nat, k ≤ 18 ∧ i = .int .i64 k ∧ Hid (wr.rowIs b 40 18 (drow fun j => if j < k then -1 else 0)) ∧ Hid (WdO w wr x O0 (fresh n) (fun i => i = b))) (fun i _ => 18 - (intOf i).toNat)
    case atStart => exact ⟨0, by omega, rfl, Lib.hid (HR0.out.congr (fun i _ => by simp [drow])), HW1⟩
    case round =>
      clear HR0 HW1
      obtain ⟨k, hk18, rfl, HR, HW⟩ := hrel
      by_cases hlt : k < 18
      · have hc : wr.cell? ⟨b, k, none⟩ = some (drow _ k) := HR.out.cell hlt
        have hf := HR.out.frozen k
        have z0 : (0 : Int) ≤ (k : Int) := by omega
        have z1 : (k : Int) < 18 := by omega
        go_wp2_with fail
        go_roundw
        case rel =>
          refine ⟨k + 1, by omega, by go_num, Lib.hid ((HR.out.set k _).congr (fun i hi => ?_)), Lib.hid (HW.out.writeK ((Upto.refl (fun i => i = b) wr).setB rfl _) rfl hwb)⟩
          by_cases e : i = k
          · subst e; simp [drow]
          · have : (i < k + 1) ↔ (i < k) := by omega
            simp [drow, e, this]
        case measure => simp [intOf]; omega
      · obtain rfl : k = 18 := by omega
        have HR1 : Hid (wr.rowIs b 40 18 (drow (dv []))) := Lib.hid (HR.out.congr (fun i hi => by simp [drow, hi, dv]))
        clear HR
        go_wp2_with fail
        go_loopw [9, 11] (fun last i wr => ∃ (k l : Nat) (E : List Tm), k ≤ len ∧ last = .int .i64 l ∧ i = .int .i64 k ∧ l ≤ 1099511627776 ∧ Hid (E.length ≤ k) ∧ Hid (Few E) ∧ Hid (wr.rowIs b 40 18 (drow (dv E))) ∧ Hid (∃ O, WdO w wr x O ⟨n, l, E⟩ (fun i => i = b))) (fun _ i _ => len - (intOf i).toNat)
        case atStart => exact ⟨0, 0, [], by omega, rfl, rfl, by omega, Lib.hid (Nat.le_refl _), Lib.hid (fun t ht => by simp at ht), HR1, Lib.hid ⟨O0, HW.out⟩⟩
        case round =>
          clear HR1 HW
          obtain ⟨k, l, E, hkl, rfl, rfl, hl, HE, HF, HR, HW⟩ := hrel
          obtain ⟨O1, hW⟩ := HW.out
          by_cases hlt : k < len
          · obtain ⟨hzk, bo, off, ha, hbo, hA⟩ := HZ.out k hlt
            obtain ⟨g0, g1, g2, g3, g4, g5⟩ := hA.upto hW.u
            subst ha
            have z0 : (0 : Int) ≤ (k : Int) := by omega
            have z1 : (k : Int) < (len : Int) := by omega
            have n0 := new_1 wr (acs (z k)).toArray 43 0 (.int .u8 ((z k).kind : Nat)) rfl
            have n1 := new_1 wr (acs (z k)).toArray 43 1 (.int .u8 ((z k).h : Nat)) rfl
            have n2 := new_1 wr (acs (z k)).toArray 43 2 (.int .u16 ((z k).by_ : Nat)) rfl
            have hu1 : Upto NoS wr (wr.alloc (.cells (acs (z k)).toArray 43)) := (Upto.refl NoS wr).alloc _
            have hby := hzk.by_
            have hkn := hzk.kind
            have HHN := Lib.hid hzk.h
            obtain ⟨d, hd⟩ : ∃ d, d = min (l + (z k).by_) 1099511627776 := ⟨_, rfl⟩
            have hmind : min ((l : Int) + ((z k).by_ : Int)) 1099511627776 = (d : Nat) := by rw [hd]; omega
            have hld : l ≤ d := by rw [hd]; exact Nat.le_min.2 ⟨Nat.le_add_right _ _, hl⟩
            have hdm : d ≤ 1099511627776 := by rw [hd]; exact Nat.min_le_right _ _
            obtain ⟨c, hc⟩ : ∃ c, c = hidx (z k).h := ⟨_, rfl⟩
            have hc18 : c < 18 := by rw [hc]; exact hidx_lt _
            have hkc : hN (z k).h = hk c := by rw [hc]; exact (hk_hidx _).symm
            obtain ⟨sa, ga, hsg⟩ : ∃ sa ga, hN (z k).h = ⟨sa, ga⟩ := ⟨_, _, rfl⟩
            have hsgk := hsg.symm.trans hkc
            simp only [hk, Hn.mk.injEq] at hsgk
            have hcx : sa * 3 + ((ga : Nat) : Int) = ((c : Nat) : Int) := by omega
            have hsa0 : 0 ≤ sa := by omega
            have hsa5 : sa ≤ 5 := by omega
            have hga2 : ga ≤ 2 := by omega
            have c0 : (0 : Int) ≤ (c : Int) := by omega
            have c1 : (c : Int) < 18 := by omega
            clear hsgk
            have HKC : Hid ((⟨sa, ga⟩ : Hn) = hk c) := Lib.hid (hsg.symm.trans hkc)
            have HOK : Hid (Hn.Ok ⟨sa, ga⟩) := Lib.hid (by rw [← hsg]; exact hN_ok _)
            have HHC : Hid (∀ W : World, Calls Try.prog 14 #[.int .u8 ((z k).h : Nat)] W (Told (.agg #[.int .i64 sa, .int .u32 (ga : Nat)]) W)) := Lib.hid (fun W => by
              have := handle_any W (z k).h HHN.out
              rw [hsg] at this
              exact this)
            have HW1 := Lib.hid hW
            clear hW hA hzk hd hc hkc hsg
            obtain ⟨r, hr⟩ : ∃ r : Nat, (((z k).kind : Nat) : Int) % 6 = r := ⟨(z k).kind % 6, by simp⟩
            have hr6 : r < 6 := by omega
            go_upto_block 4 with (go_at_call 14; refine (HHC.out _).mono ?_; rintro e w9 ⟨rfl, hu9⟩; have m0 := keep_alloc (hu9.keep n0 id) (.cells #[.int .i64 sa, .int .u32 (ga : Nat)] 31); have m2 := keep_alloc (hu9.keep n2 id) (.cells #[.int .i64 sa, .int .u32 (ga : Nat)] 31); have t0 := new_1 w9 #[.int .i64 sa, .int .u32 (ga : Nat)] 31 0 _ rfl; have t1 := new_1 w9 #[.int .i64 sa, .int .u32 (ga : Nat)] 31 1 _ rfl)
            rw [hr]
            have hu2 : Upto NoS wr (w9.alloc (.cells #[.int .i64 sa, .int .u32 (ga : Nat)] 31)) := (hu1.trans hu9).alloc _
            have hhb : wr.heap.size ≤ w9.heap.size := (hu1.trans hu9).size
            have hhc : w9.heap.size < (w9.alloc (.cells #[.int .i64 sa, .int .u32 (ga : Nat)] 31)).heap.size := by simp
            have HW2 := Lib.hid (HW1.out.add (K' := fun i => i = b ∨ i = w9.heap.size) hu2 (fun i hi => hi.elim .inl (fun e => .inr ⟨by rw [e]; exact hhb, by rw [e]; exact hhc⟩)))
            have HR2 := Lib.hid (hu2.row HR.out id)
            clear m0 m2 n0 n1 n2 hu9 hu1 hu2 hr HR HW HHC hmind
            generalize w9.alloc (.cells #[.int .i64 sa, .int .u32 (ga : Nat)] 31) = W2 at t0 t1 hhc HW2 HR2 ⊢
            generalize w9.heap.size = hb at t0 t1 hhb hhc HW2 ⊢
            have v0 : W2.cell? ⟨b, c, none⟩ = some (.int .i64 (dv E c)) := HR2.out.cell hc18
            have vf := HR2.out.frozen c
            have hbl : b < W2.heap.size := HR2.out.lt
            have HLI : Hid (Lies ⟨sa, ga⟩ sa (ga : Nat)) := Lib.hid ⟨rfl, rfl⟩
            have HND := Lib.hid HW2.out.ok.nodup
            have hEk := HE.out
            go_cut [9] (fun u wd => ∃ (l' : Nat) (E' : List Tm), u = .int .i64 l' ∧ l' ≤ 1099511627776 ∧ Hid (E'.length ≤ k + 1) ∧ Hid (Few E') ∧ Hid (wd.rowIs b 40 18 (drow (dv E'))) ∧ Hid (∃ O, WdO w wd x O ⟨n, l', E'⟩ (fun i => i = b)))
            case first =>
              rcases (show r < 3 ∨ r = 3 ∨ (r = 4 ∨ r = 5) by omega) with hc | hc | hc
              · have e3 : ((r : Int) == 3) = false := by simp; omega
                have e4 : ((r : Int) == 4) = false := by simp; omega
                have e5 : ((r : Int) == 5) = false := by simp; omega
                have HSA := Lib.hid (sz_put n l E ⟨sa, ga⟩ hdm)
                have hW2 := HW2.out.quiet (Upto.refl NoS W2).drew
                have HSM : Hid ((⟨n, l, E⟩ : Wh).E.length < 1000000) := Lib.hid (by show E.length < 1000000; omega)
                have hpl := dv_put HND.out (d := d) (j := c)
                rw [← HKC.out] at hpl
                cases hq : cutR E (hk c)
                · as_aux_lemma =>
                    have hpr : putR E ⟨sa, ga⟩ = 0 := by rw [HKC.out]; unfold putR; rw [if_neg (by unfold cutR at hq; rw [hq]; simp)]
                    rw [hpr] at HSA
                    have hv := (dv_none hq).1
                    rw [hv] at v0
                    rw [← HKC.out] at hq
                    have HPL : Hid (∀ i, dv (putL E ⟨sa, ga⟩ d) i = if i = c then ((d : Nat) : Int) else dv E i) := Lib.hid (fun i => by rw [hpl i, hq]; simp)
                    clear hpl hq hv hpr
                    go_upto_region 18 with (fail)
                    go_region_held3 (fun w' => w'.cell? ⟨hb, 0, none⟩ = some (.int .i64 sa) ∧ w'.cell? ⟨hb, 1, none⟩ = some (.int .u32 (ga : Nat)) ∧ w'.cell? ⟨b, c, none⟩ = some (.int .i64 (-1)))
                      (first | exact ⟨t0, t1, v0⟩ | exact ⟨hu3.keep t0 (fun h => h (.inr rfl)), hu3.keep t1 (fun h => h (.inr rfl)), hu3.keep v0 (fun h => h (.inl rfl))⟩)
                      (first | (go_at_call 10; (with_reducible refine (W_put_to hW2 ⟨sa, ga⟩ _ HLI.out HOK.out HSM.out HSA.out.1 HSA.out.2).mono ?_); rintro e w3 ⟨rfl, O3, hW3, hu3⟩; have vf3 := (hu3.frozen (p := ⟨b, c, none⟩) hbl (fun h => h (.inl rfl))).trans vf; have v3 := hu3.keep v0 (fun h => h (.inl rfl))))
                    go_wp2_with fail
                    go_meet
                    case rel =>
                      refine ⟨l, _, rfl, hl, Lib.hid (Nat.le_trans (putL_le _ _ d) (by omega)), Lib.hid (by rw [HKC.out]; exact few_put HF.out hc18 d), Lib.hid (((hu3.row HR2.out (fun h => h (.inl rfl))).set c _).congr (fun i hi => ?_)), Lib.hid ⟨O3, (hW3.writeK ((Upto.refl (fun i => i = b) w3).setB rfl _) (.inl rfl) hwb).mono (fun i e => .inl e)⟩⟩
                      unfold drow
                      rw [HPL.out]
                      by_cases e : i = c
                      · subst e; simp
                      · simp [e]
                · as_aux_lemma =>
                    have hpr : putR E ⟨sa, ga⟩ = 7 := by rw [HKC.out]; unfold putR; rw [if_pos (by unfold cutR at hq; exact hq)]
                    rw [hpr] at HSA
                    have hdec : decide (dv E c < 0) = false := by have := dv_nn E c; rw [hq] at this; simp at this; simp; omega
                    have e70 : ((7 : Int) == 0) = false := rfl
                    rw [← HKC.out] at hq
                    have HPL : Hid (∀ i, dv (putL E ⟨sa, ga⟩ d) i = dv E i) := Lib.hid (fun i => by rw [hpl i, hq]; simp)
                    clear hpl hq hpr
                    generalize dv E c = v at v0 hdec
                    go_upto_region 18 with (fail)
                    go_region_held3 (fun w' => w'.cell? ⟨hb, 0, none⟩ = some (.int .i64 sa) ∧ w'.cell? ⟨hb, 1, none⟩ = some (.int .u32 (ga : Nat)) ∧ w'.cell? ⟨b, c, none⟩ = some (.int .i64 v))
                      (first | exact ⟨t0, t1, v0⟩ | exact ⟨hu3.keep t0 (fun h => h (.inr rfl)), hu3.keep t1 (fun h => h (.inr rfl)), hu3.keep v0 (fun h => h (.inl rfl))⟩)
                      (first | (go_at_call 10; (with_reducible refine (W_put_to hW2 ⟨sa, ga⟩ _ HLI.out HOK.out HSM.out HSA.out.1 HSA.out.2).mono ?_); rintro e w3 ⟨rfl, O3, hW3, hu3⟩; have vf3 := (hu3.frozen (p := ⟨b, c, none⟩) hbl (fun h => h (.inl rfl))).trans vf; have v3 := hu3.keep v0 (fun h => h (.inl rfl))))
                    go_wp2_with fail
                    go_meet
                    case rel =>
                      refine ⟨l, _, rfl, hl, Lib.hid (Nat.le_trans (putL_le _ _ d) (by omega)), Lib.hid (by rw [HKC.out]; exact few_put HF.out hc18 d), Lib.hid ((hu3.row HR2.out (fun h => h (.inl rfl))).congr (fun i hi => ?_)), Lib.hid ⟨O3, hW3.mono (fun i e => .inl e)⟩⟩
                      unfold drow
                      rw [HPL.out]
              · as_aux_lemma =>
                  subst hc
                  have e3 : ((3 : Int) == 3) = true := rfl
                  have e4 : ((3 : Int) == 4) = false := rfl
                  have e5 : ((3 : Int) == 5) = false := rfl
                  obtain ⟨q, hq⟩ : ∃ q, cutR E (hk c) = q := ⟨_, rfl⟩
                  have HQA : Hid (((⟨n, l, E⟩ : Wh).find ⟨sa, ga⟩).isSome = q) := Lib.hid (by rw [HKC.out]; exact hq)
                  have HCA : Hid ((⟨n, l, E⟩ : Wh).cut ⟨sa, ga⟩ = ⟨n, l, cutL E (hk c)⟩) := Lib.hid (by rw [HKC.out]; rfl)
                  have hdec : decide ((0 : Int) ≤ dv E c) = q := (dv_nn E c).trans hq
                  have hqq : (q != q) = false := by simp
                  have hW2 := HW2.out.quiet (Upto.refl NoS W2).drew
                  clear hq
                  generalize dv E c = v at v0 hdec
                  go_upto_region 23 with (fail)
                  go_region_held3 (fun w' => w'.cell? ⟨hb, 0, none⟩ = some (.int .i64 sa) ∧ w'.cell? ⟨hb, 1, none⟩ = some (.int .u32 (ga : Nat)) ∧ w'.cell? ⟨b, c, none⟩ = some (.int .i64 v))
                    (first | exact ⟨t0, t1, v0⟩ | exact ⟨hu3.keep t0 (fun h => h (.inr rfl)), hu3.keep t1 (fun h => h (.inr rfl)), hu3.keep v0 (fun h => h (.inl rfl))⟩)
                    (first | (go_at_call 15; (with_reducible refine (W_cut_to hW2 ⟨sa, ga⟩ HLI.out HOK.out HQA.out HCA.out).mono ?_); rintro e w3 ⟨rfl, O3, hW3, hu3⟩; have vf3 := (hu3.frozen (p := ⟨b, c, none⟩) hbl (fun h => h (.inl rfl))).trans vf; have v3 := hu3.keep v0 (fun h => h (.inl rfl))))
                  go_wp2_with fail
                  go_meet
                  case rel =>
                    refine ⟨l, _, rfl, hl, Lib.hid (Nat.le_trans (cutL_le _ _) (by omega)), Lib.hid (few_cut HF.out _), Lib.hid (((hu3.row HR2.out (fun h => h (.inl rfl))).set c _).congr (fun i hi => ?_)), Lib.hid ⟨O3, (hW3.writeK ((Upto.refl (fun i => i = b) w3).setB rfl _) (.inl rfl) hwb).mono (fun i e => .inl e)⟩⟩
                    unfold drow
                    rw [dv_cut HND.out]
                    by_cases e : i = c
                    · subst e; simp
                    · simp [e]
              · rcases hc with hc | hc
                all_goals
                  as_aux_lemma =>
                    subst hc
                    obtain ⟨q, hq⟩ : ∃ q, (turnR E d).length = q := ⟨_, rfl⟩
                    have HQ := Lib.hid hq
                    have HSA := Lib.hid (sz_turn n l E hld hdm)
                    obtain ⟨C, D, p1, p2, p3, p4⟩ := once_told HND.out HF.out d
                    rw [hq] at p1 p2 p3
                    have hqm : q ≤ 150 := by have := turnR_le E d; omega
                    have H1 := Lib.hid p1
                    have H2 := Lib.hid p2
                    have H3 := Lib.hid p3
                    have H4 := Lib.hid p4
                    have hsz2 := HW2.out.u.size
                    clear hq p1 p2 p3 p4 v0 vf
                    go_wp2_with (go_at_call 12; (with_reducible refine (W_turn_to HW2.out _ HSA.out.1 HSA.out.2.1 HSA.out.2.2 HQ.out).mono ?_); rintro e w3 ⟨a8, c8, rfl, o8, hW3, hu3⟩; have HR3 := Lib.hid (hu3.row HR2.out (fun h => h (.inl rfl))); have HO3 := Lib.hid o8; have HW3 := Lib.hid hW3; have hs3 := hu3.size; clear o8 hW3 hu3)
                    go_loopw [18, 19] (fun bf j wz => ∃ (t : Nat) (bv : Int), t ≤ q ∧ j = .int .i64 t ∧ bf = .int .i64 bv ∧ ((t = 0 ∧ bv = -1) ∨ ∃ t', t = t' + 1 ∧ bv = (C t' : Nat)) ∧ Hid (Upto NoS w3 wz)) (fun _ j _ => q - (intOf j).toNat)
                    case atStart => exact ⟨0, -1, by omega, rfl, rfl, .inl ⟨rfl, rfl⟩, Lib.hid (Upto.refl _ _)⟩
                    case round =>
                      obtain ⟨t, bv, ht, rfl, rfl, hbv, HU⟩ := hrel
                      by_cases hlt2 : t < q
                      · have ho := HU.out.own HO3.out (fun _ _ h => h)
                        rw [HQ.out] at ho
                        obtain ⟨qb, cp, e8, hq8, _⟩ := own_form ho (by omega)
                        simp only [Value.slice.injEq, true_and] at e8
                        obtain ⟨rfl, rfl⟩ := e8
                        have htL : t < (turnR E d).length := by rw [HQ.out]; exact hlt2
                        obtain ⟨j1, j2, j3, j4, j5⟩ := H1.out t hlt2
                        have s0 := (own_hcl ho t htL).1
                        have s1 := (own_hcl ho t htL).2
                        rw [j2] at s0
                        rw [j3] at s1
                        have d0 := HU.out.keep (HR3.out.cell j1) id
                        simp only [drow] at d0
                        rw [j4] at d0
                        have hsg1 : C t / 3 * 3 + C t % 3 = C t := by omega
                        have hsl : C t / 3 ≤ 5 := by omega
                        have hgl : C t % 3 ≤ 2 := by omega
                        obtain ⟨ct, hct⟩ : ∃ ct, C t = ct := ⟨_, rfl⟩
                        obtain ⟨dt, hdt⟩ : ∃ dt, D t = dt := ⟨_, rfl⟩
                        have HCT := Lib.hid hct
                        have HDT := Lib.hid hdt
                        rw [hct] at s0 s1 d0 hsg1 hsl hgl j1
                        rw [hdt] at d0 j5
                        generalize ct / 3 = ss at s0 hsg1 hsl
                        generalize ct % 3 = gg at s1 hsg1 hgl
                        have hcc : (ss : Int) * 3 + (gg : Int) = (ct : Int) := by omega
                        have x0 : (0 : Int) ≤ (t : Int) := by omega
                        have x1 : (t : Int) < (q : Int) := by omega
                        have x2 : (0 : Int) ≤ (ct : Int) := by omega
                        have x3 : (ct : Int) < 18 := by omega
                        have y1 : decide ((ss : Int) < 0) = false := by simp
                        have y2 : decide ((5 : Int) < (ss : Int)) = false := by simp; omega
                        have y3 : decide ((2 : Int) < (gg : Int)) = false := by simp; omega
                        have y4 : decide ((dt : Int) < 0) = false := by simp
                        have y5 : decide ((d : Int) < (dt : Int)) = false := by simp; omega
                        have y5n : decide (d < dt) = false := by simp; omega
                        clear hct hdt j2 j3 j4 ho htL
                        rcases hbv with ⟨rfl, rfl⟩ | ⟨t', rfl, rfl⟩
                        · go_wp2_with fail
                          go_quiet (fail)
                          go_wp2_with fail
                          go_quiet (fail)
                          go_wp2_with fail
                          go_roundw
                          case rel => exact ⟨1, _, by omega, by go_num, rfl, .inr ⟨0, rfl, by rw [HCT.out]⟩, by first | exact Lib.hid ((HU.out.drewN _).drewN _) | exact Lib.hid (HU.out.drewN _)⟩
                          case measure => simp [intOf]; omega
                        · obtain ⟨i1, i2, i3, i4, i5⟩ := H1.out t' (by omega)
                          have d1 := HU.out.keep (HR3.out.cell i1) id
                          simp only [drow] at d1
                          rw [i4] at d1
                          have hord := H2.out t' hlt2
                          rw [HCT.out, HDT.out] at hord
                          generalize D t' = dp at d1 hord i5
                          obtain ⟨cp', hcp⟩ : ∃ cp', C t' = cp' := ⟨_, rfl⟩
                          rw [hcp] at d1 hord i1 ⊢
                          have w0 : (0 : Int) ≤ (cp' : Int) := by omega
                          have w1' : (cp' : Int) < 18 := by omega
                          clear i2 i3 i4 hcp
                          rcases hord with hlt3 | ⟨heq, hlt3⟩
                          · have v1 : decide ((dt : Int) < (dp : Int)) = false := by simp; omega
                            have v1n : decide (dt < dp) = false := by simp; omega
                            have v2n : (dp == dt) = false := by simp; omega
                            have v2m : decide (dp = dt) = false := by simp; omega
                            have v2 : ((dp : Int) == (dt : Int)) = false := by simp; omega
                            go_wp2_with fail
                            go_quiet (fail)
                            go_wp2_with fail
                            go_quiet (fail)
                            go_wp2_with fail
                            go_roundw
                            case rel => exact ⟨t' + 2, _, by omega, by go_num, rfl, .inr ⟨t' + 1, rfl, by rw [HCT.out]⟩, by first | exact Lib.hid ((HU.out.drewN _).drewN _) | exact Lib.hid (HU.out.drewN _)⟩
                            case measure => simp [intOf]; omega
                          · subst heq
                            have v1 : decide ((dp : Int) < (dp : Int)) = false := by simp
                            have v2 : ((dp : Int) == (dp : Int)) = true := by simp
                            have v3 : decide ((ct : Int) ≤ (cp' : Int)) = false := by simp; omega
                            have v3n : decide (ct ≤ cp') = false := by simp; omega
                            go_wp2_with fail
                            go_quiet (fail)
                            go_wp2_with fail
                            go_quiet (fail)
                            go_wp2_with fail
                            go_roundw
                            case rel => exact ⟨t' + 2, _, by omega, by go_num, rfl, .inr ⟨t' + 1, rfl, by rw [HCT.out]⟩, by first | exact Lib.hid ((HU.out.drewN _).drewN _) | exact Lib.hid (HU.out.drewN _)⟩
                            case measure => simp [intOf]; omega
                      · obtain rfl : t = q := by omega
                        have HRZ : Hid (wr.rowIs b 40 18 (drow fun i => if ∃ m, m < 0 ∧ C m = i then -1 else dv E i)) := Lib.hid ((HU.out.row HR3.out id).congr (fun i _ => by
                          have : ¬ ∃ m, m < 0 ∧ C m = i := fun ⟨m, h, _⟩ => by omega
                          simp only [drow, if_neg this]))
                        have HWZ := Lib.hid (HW3.out.quiet HU.out)
                        have HOZ := Lib.hid (HU.out.own HO3.out (fun _ _ h => h))
                        clear hbv
                        go_wp2_with fail
                        go_loopw [21] (fun j wy => ∃ i : Nat, i ≤ t ∧ j = .int .i64 i ∧ Hid (wy.rowIs b 40 18 (drow fun j => if ∃ m, m < i ∧ C m = j then -1 else dv E j)) ∧ Hid (WdO w wy x O1 ⟨n, d, turnT E d⟩ (fun j => (j = b ∨ j = hb) ∨ (Value.slice a8 t c8).ownBlock = some j)) ∧ Hid (wy.ownsRow W2.heap.size 31 2 (.slice a8 t c8) (turnR E d).length (hcl (turnR E d)))) (fun j _ => t - (intOf j).toNat)
                        case atStart => exact ⟨0, by omega, rfl, HRZ, HWZ, HOZ⟩
                        case round =>
                          clear HRZ HWZ HOZ
                          obtain ⟨i, hi, rfl, HRY, HWY, HOY⟩ := hrel
                          by_cases hlt4 : i < t
                          · have ho := HOY.out
                            rw [HQ.out] at ho
                            obtain ⟨qb, cp, e8, hq8, hq9⟩ := own_form ho (by omega)
                            simp only [Value.slice.injEq, true_and] at e8
                            obtain ⟨rfl, rfl⟩ := e8
                            have htL : i < (turnR E d).length := by rw [HQ.out]; exact hlt4
                            obtain ⟨j1, j2, j3, j4, j5⟩ := H1.out i hlt4
                            have s0 := (own_hcl ho i htL).1
                            have s1 := (own_hcl ho i htL).2
                            rw [j2] at s0
                            rw [j3] at s1
                            have d0 := HRY.out.cell j1
                            have f0 := HRY.out.frozen (C i)
                            have hsg1 : C i / 3 * 3 + C i % 3 = C i := by omega
                            have hsl : C i / 3 ≤ 5 := by omega
                            have hgl : C i % 3 ≤ 2 := by omega
                            obtain ⟨ct, hct⟩ : ∃ ct, C i = ct := ⟨_, rfl⟩
                            have HCT := Lib.hid hct
                            rw [hct] at s0 s1 d0 f0 hsg1 hsl hgl j1
                            generalize ct / 3 = ss at s0 hsg1 hsl
                            generalize ct % 3 = gg at s1 hsg1 hgl
                            have hcc : (ss : Int) * 3 + (gg : Int) = (ct : Int) := by omega
                            have hw44 : IntKind.i64.wrap (IntKind.i64.wrap ((ss : Int) * 3) + IntKind.i64.wrap (gg : Int)) = (ct : Int) := by rw [IntWalk.i64_in ((ss : Int) * 3) (by omega), IntWalk.i64_in (gg : Int) (by omega), IntWalk.i64_in _ (by omega)]; exact hcc
                            have x0 : (0 : Int) ≤ (i : Int) := by omega
                            have x1 : (i : Int) < (t : Int) := by omega
                            have x2 : (0 : Int) ≤ (ct : Int) := by omega
                            have x3 : (ct : Int) < 18 := by omega
                            have hqb : b < qb := by omega
                            have d0 : wr.drew.cell? ⟨b, ct, none⟩ = _ := d0
                            have f0 : wr.drew.frozen? ⟨b, ct, none⟩ = false := f0
                            have s0 : wr.drew.cell? ⟨qb, i * 2, none⟩ = _ := s0
                            have s1 : wr.drew.cell? ⟨qb, i * 2 + 1, none⟩ = _ := s1
                            have hu44 : Upto (fun j => j = b) wr (wr.drew.setCell ⟨b, ct, none⟩ (.int .i64 (-1))) := (Upto.refl (fun j => j = b) wr).drew.setB rfl _
                            have HNEW : Hid ((wr.drew.setCell ⟨b, ct, none⟩ (.int .i64 (-1))).rowIs b 40 18 (drow fun j => if ∃ m, m < i + 1 ∧ C m = j then -1 else dv E j)) := Lib.hid (((rowIs_drew HRY.out).set ct _).congr (fun j hj => by
                              by_cases e : j = ct
                              · subst e
                                rw [if_pos rfl]
                                have : ∃ m, m < i + 1 ∧ C m = j := ⟨i, by omega, HCT.out⟩
                                simp only [drow, if_pos this]
                              · rw [if_neg e]
                                have : (∃ m, m < i + 1 ∧ C m = j) ↔ ∃ m, m < i ∧ C m = j := ⟨fun ⟨m, h1, h2⟩ => by
                                  by_cases em : m = i
                                  · subst em; exact (e (h2.symm.trans HCT.out)).elim
                                  · exact ⟨m, by omega, h2⟩, fun ⟨m, h1, h2⟩ => ⟨m, by omega, h2⟩⟩
                                simp only [drow, this]))
                            have HWN := Lib.hid (HWY.out.writeK hu44 (.inl (.inl rfl)) hwb)
                            have HON := Lib.hid (hu44.own HOY.out (fun j hj e => by have := (HOY.out.lt j hj).1; have e : j = b := e; omega))
                            clear j2 j3 j4 ho htL hct hu44
                            go_upto_region 44 with (fail)
                            refine E_start (S := fun w' => w'.cell? ⟨qb, i * 2, none⟩ = some (.int .i64 (ss : Nat)) ∧ w'.cell? ⟨qb, i * 2 + 1, none⟩ = some (.int .u32 (gg : Nat))) 14 (by kernel_rfl) ⟨s0, s1⟩ (fun hHeld => ?_)
                            generalize wr.drew = V at d0 f0 s0 s1 HNEW HWN HON hHeld ⊢
                            refine E_take (i := 0) (v := ?_) rfl (by kernel_rfl) (by kernel_rfl) (by kernel_rfl) (by kernel_rfl) (fun _ _ _ h => h) (Or.inl ⟨by rfl, ?_⟩) (by assumption) ?_
                            rotate_left
                            · ((intro w hSw; (try dsimp only at hSw); go_simp); (try with_reducible rfl))
                            try simp only [Act.put, List.getElem_toArray, List.getElem_cons_zero, List.getElem_cons_succ, List.setIfInBounds_toArray, List.set_cons_zero, List.set_cons_succ]
                            refine E_take (i := 1) (v := ?_) rfl (by kernel_rfl) (by kernel_rfl) (by kernel_rfl) (by kernel_rfl) (fun _ _ _ h => h) (Or.inl ⟨by rfl, ?_⟩) (by assumption) ?_
                            rotate_left
                            · ((intro w hSw; (try dsimp only at hSw); go_simp); (try with_reducible rfl))
                            try simp only [Act.put, List.getElem_toArray, List.getElem_cons_zero, List.getElem_cons_succ, List.setIfInBounds_toArray, List.set_cons_zero, List.set_cons_succ]
                            refine E_take (i := 2) (v := ?_) rfl (by kernel_rfl) (by kernel_rfl) (by kernel_rfl) (by kernel_rfl) (fun _ _ _ h => h) (Or.inl ⟨by rfl, ?_⟩) (by assumption) ?_
                            rotate_left
                            · ((intro w hSw; (try dsimp only at hSw); go_simp); (try with_reducible rfl))
                            try simp only [Act.put, List.getElem_toArray, List.getElem_cons_zero, List.getElem_cons_succ, List.setIfInBounds_toArray, List.set_cons_zero, List.set_cons_succ]
                            refine E_take (i := 3) (v := ?_) rfl (by kernel_rfl) (by kernel_rfl) (by kernel_rfl) (by kernel_rfl) (fun _ _ _ h => h) (Or.inl ⟨by rfl, ?_⟩) (by assumption) ?_
                            rotate_left
                            · ((intro w hSw; (try dsimp only at hSw); go_simp); (try with_reducible rfl))
                            try simp only [Act.put, List.getElem_toArray, List.getElem_cons_zero, List.getElem_cons_succ, List.setIfInBounds_toArray, List.set_cons_zero, List.set_cons_succ]
                            refine E_take (i := 4) (v := ?_) rfl (by kernel_rfl) (by kernel_rfl) (by kernel_rfl) (by kernel_rfl) (fun _ _ _ h => h) (Or.inl ⟨by rfl, ?_⟩) (by assumption) ?_
                            rotate_left
                            · ((intro w hSw; (try dsimp only at hSw); go_simp); (try with_reducible rfl))
                            try simp only [Act.put, List.getElem_toArray, List.getElem_cons_zero, List.getElem_cons_succ, List.setIfInBounds_toArray, List.set_cons_zero, List.set_cons_succ]
                            refine E_take (i := 5) (v := ?_) rfl (by kernel_rfl) (by kernel_rfl) (by kernel_rfl) (by kernel_rfl) (fun _ _ _ h => h) (Or.inl ⟨by rfl, ?_⟩) (by assumption) ?_
                            rotate_left
                            · ((intro w hSw; (try dsimp only at hSw); go_simp); (try with_reducible rfl))
                            try simp only [Act.put, List.getElem_toArray, List.getElem_cons_zero, List.getElem_cons_succ, List.setIfInBounds_toArray, List.set_cons_zero, List.set_cons_succ]
                            refine E_take (i := 6) (v := ?_) rfl (by kernel_rfl) (by kernel_rfl) (by kernel_rfl) (by kernel_rfl) (fun _ _ _ h => h) (Or.inl ⟨by rfl, ?_⟩) (by assumption) ?_
                            rotate_left
                            · ((intro w hSw; (try dsimp only at hSw); go_simp); (try with_reducible rfl))
                            try simp only [Act.put, List.getElem_toArray, List.getElem_cons_zero, List.getElem_cons_succ, List.setIfInBounds_toArray, List.set_cons_zero, List.set_cons_succ]
                            refine E_take (i := 7) (v := ?_) rfl (by kernel_rfl) (by kernel_rfl) (by kernel_rfl) (by kernel_rfl) (fun _ _ _ h => h) (Or.inl ⟨by rfl, ?_⟩) (by assumption) ?_
                            rotate_left
                            · ((intro w hSw; (try dsimp only at hSw); go_simp); (try with_reducible rfl))
                            try simp only [Act.put, List.getElem_toArray, List.getElem_cons_zero, List.getElem_cons_succ, List.setIfInBounds_toArray, List.set_cons_zero, List.set_cons_succ]
                            refine E_take (i := 8) (v := ?_) rfl (by kernel_rfl) (by kernel_rfl) (by kernel_rfl) (by kernel_rfl) (fun _ _ _ h => h) (Or.inl ⟨by rfl, ?_⟩) (by assumption) ?_
                            rotate_left
                            · ((intro w hSw; (try dsimp only at hSw); go_simp); (try with_reducible rfl))
                            try simp only [Act.put, List.getElem_toArray, List.getElem_cons_zero, List.getElem_cons_succ, List.setIfInBounds_toArray, List.set_cons_zero, List.set_cons_succ]
                            refine E_take (i := 9) (v := ?_) rfl (by kernel_rfl) (by kernel_rfl) (by kernel_rfl) (by kernel_rfl) (fun _ _ _ h => h) (Or.inl ⟨by rfl, ?_⟩) (by assumption) ?_
                            rotate_left
                            · ((intro w hSw; (try dsimp only at hSw); go_simp); (try with_reducible rfl))
                            try simp only [Act.put, List.getElem_toArray, List.getElem_cons_zero, List.getElem_cons_succ, List.setIfInBounds_toArray, List.set_cons_zero, List.set_cons_succ]
                            refine E_take (i := 10) (v := ?_) rfl (by kernel_rfl) (by kernel_rfl) (by kernel_rfl) (by kernel_rfl) (fun _ _ _ h => h) (Or.inl ⟨by rfl, ?_⟩) (by assumption) ?_
                            rotate_left
                            · ((intro w hSw; (try dsimp only at hSw); go_simp); (try with_reducible rfl))
                            try simp only [Act.put, List.getElem_toArray, List.getElem_cons_zero, List.getElem_cons_succ, List.setIfInBounds_toArray, List.set_cons_zero, List.set_cons_succ]
                            refine E_take (i := 11) (v := ?_) rfl (by kernel_rfl) (by kernel_rfl) (by kernel_rfl) (by kernel_rfl) (fun _ _ _ h => h) (Or.inl ⟨by rfl, ?_⟩) (by assumption) ?_
                            rotate_left
                            · ((intro w hSw; (try dsimp only at hSw); go_simp); (try with_reducible rfl))
                            try simp only [Act.put, List.getElem_toArray, List.getElem_cons_zero, List.getElem_cons_succ, List.setIfInBounds_toArray, List.set_cons_zero, List.set_cons_succ]
                            refine E_take (i := 12) (v := .int .i64 (ct : Nat)) rfl (by kernel_rfl) (by kernel_rfl) (by kernel_rfl) (by kernel_rfl) (fun _ _ _ h => h) (Or.inl ⟨by rfl, ?_⟩) (by assumption) ?_
                            · (intro w hSw; (try dsimp only at hSw); go_simp; try (with_reducible rfl))
                            try simp only [Act.put, List.getElem_toArray, List.getElem_cons_zero, List.getElem_cons_succ, List.setIfInBounds_toArray, List.set_cons_zero, List.set_cons_succ]
                            refine E_take (i := 13) (v := ?_) rfl (by kernel_rfl) (by kernel_rfl) (by kernel_rfl) (by kernel_rfl) (fun _ _ _ h => h) (Or.inl ⟨by rfl, ?_⟩) (by assumption) ?_
                            rotate_left
                            · ((intro w hSw; (try dsimp only at hSw); go_simp); (try with_reducible rfl))
                            try simp only [Act.put, List.getElem_toArray, List.getElem_cons_zero, List.getElem_cons_succ, List.setIfInBounds_toArray, List.set_cons_zero, List.set_cons_succ]
                            refine E_one (i := 14) (by kernel_rfl) rfl (fun K hK => ?_)
                            go_simp
                            refine hK.out _ _ (.inl rfl) (fun hHeld => ?_)
                            clear hK K
                            try simp only [Act.put, List.getElem_toArray, List.getElem_cons_zero, List.getElem_cons_succ, List.setIfInBounds_toArray, List.set_cons_zero, List.set_cons_succ]
                            refine E_done (by kernel_rfl) ?_ _
                            go_wp2_with fail
                            go_roundw
                            case rel => exact ⟨i + 1, by omega, by go_num, HNEW, HWN, HON⟩
                            case measure => simp [intOf]; omega
                          · obtain rfl : i = t := by omega
                            have HRX : Hid (wr.rowIs b 40 18 (drow (dv (turnT E d)))) := Lib.hid (HRY.out.congr (fun j hj => by
                              simp only [drow]
                              rw [H3.out j hj]))
                            clear HRY
                            go_wp2_with fail
                            go_loopw [22] (fun j wx => ∃ m : Nat, m ≤ 18 ∧ j = .int .i64 m ∧ wx = wr) (fun j _ => 18 - (intOf j).toNat)
                            case atStart => exact ⟨0, by omega, rfl, rfl⟩
                            case round =>
                              obtain ⟨m, hm18, rfl, rfl⟩ := hrel
                              by_cases hlt5 : m < 18
                              · have u0 := HRX.out.cell hlt5
                                have y0 : (0 : Int) ≤ (m : Int) := by omega
                                have y1 : (m : Int) < 18 := by omega
                                have h4 := H4.out m hlt5
                                simp only [drow] at u0
                                generalize dv (turnT E d) m = v at u0 h4
                                by_cases hv : 0 ≤ v
                                · have hv2 := h4 hv
                                  have hv3 : decide (v ≤ (d : Int)) = false := by simp; omega
                                  clear h4
                                  go_wp2_with fail
                                  go_roundw
                                  case rel => exact ⟨m + 1, by omega, by go_num, trivial⟩
                                  case measure => simp [intOf]; omega
                                · have hv3 : decide (0 ≤ v) = false := by simp; omega
                                  clear h4
                                  go_wp2_with fail
                                  go_roundw
                                  case rel => exact ⟨m + 1, by omega, by go_num, trivial⟩
                                  case measure => simp [intOf]; omega
                              · obtain rfl : m = 18 := by omega
                                go_wp2_with fail
                                go_meet
                                case rel => exact ⟨d, _, rfl, hdm, Lib.hid (Nat.le_trans (turnT_le _ _) (by omega)), Lib.hid (few_turn HF.out _), HRX, Lib.hid ⟨_, HWY.out.mono (fun j e => .inl (.inl e))⟩⟩
            case rest =>
              as_aux_lemma =>
                obtain ⟨l', E', rfl, hl', HE', HF', HR', HW'⟩ := hcut
                obtain ⟨O3, hW3⟩ := HW'.out
                have HND' := Lib.hid hW3.ok.nodup
                clear t0 t1 v0 vf HW2 HR2 HND hbl hhc hhb
                go_wp2_with fail
                go_loopw [10, 23] (fun m j wz => ∃ t : Nat, t ≤ 18 ∧ m = .int .i64 (cntD E' t : Nat) ∧ j = .int .i64 t ∧ wz = wc) (fun _ j _ => 18 - (intOf j).toNat)
                case atStart => exact ⟨0, by omega, rfl, rfl, rfl⟩
                case round =>
                  obtain ⟨t, ht, rfl, rfl, rfl⟩ := hrel
                  by_cases hlt2 : t < 18
                  · have u0 := HR'.out.cell hlt2
                    have y0 : (0 : Int) ≤ (t : Int) := by omega
                    have y1 : (t : Int) < 18 := by omega
                    have hcl := cntD_le E' t
                    have hcs := cntD_succ E' t
                    simp only [drow] at u0
                    by_cases hv : 0 ≤ dv E' t
                    · rw [if_pos hv] at hcs
                      have HCS := Lib.hid hcs
                      clear hcs
                      generalize dv E' t = v at u0 hv
                      go_wp2_with fail
                      go_roundw
                      case rel => exact ⟨t + 1, by omega, by rw [HCS.out]; go_num, by go_num, trivial⟩
                      case measure => simp [intOf]; omega
                    · rw [if_neg hv] at hcs
                      have HCS := Lib.hid hcs
                      clear hcs
                      generalize dv E' t = v at u0 hv
                      go_wp2_with fail
                      go_roundw
                      case rel => exact ⟨t + 1, by omega, by rw [HCS.out]; rfl, by go_num, trivial⟩
                      case measure => simp [intOf]; omega
                  · obtain rfl : t = 18 := by omega
                    have hall := cntD_all HND'.out HF'.out
                    have HC := Lib.hid hall.symm
                    generalize cntD E' 18 = cn at HC ⊢
                    have b3 : ((cn : Int) != (cn : Int)) = false := by simp
                    clear hall
                    go_wp2_with (go_at_call 13; refine (W_count hW3).mono ?_; rw [HC.out]; rintro e w8 ⟨rfl, rfl⟩)
                    go_roundw
                    case rel => (repeat apply Exists.intro); exact ⟨⟨k + 1, l', E', by omega, rfl, by go_num, hl', HE', HF', HR', HW'⟩, rfl⟩
                    case measure => simp [intOf]; omega
          · obtain rfl : k = len := by omega
            go_wp2_with (go_at_call 9; refine (timed_any _).mono ?_; rintro e w3 ⟨rfl, hu⟩)
            go_ret
            exact ⟨rfl, hW.u.trans hu⟩
end Go.Proofs.Ytgoaokgoenihlaa
