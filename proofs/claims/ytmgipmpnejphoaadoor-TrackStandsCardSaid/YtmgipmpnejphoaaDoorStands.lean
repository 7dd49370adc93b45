/- TrackStands, walked. -/
import Derived.Test.YtmgipmpnejphoaaDoorStood
namespace Go.Proofs.YtmgipmpnejphoaaDoor
open Go Go.RowKit Go.Deep

def trk (st : Int) (back r f sy ac : Bool) : Int :=
  if r then 7 else if st = 7 then 7 else if f then endsI st back
  else if st = 1 ∧ back = true ∧ sy = true then 2
  else if st = 2 ∧ back = false ∧ ac = true ∧ sy = false then 3 else st
theorem trk_is (st : Int) (back : Bool) (fl : Nat) : trackedI st back fl = trk st back (hasB fl 4) (hasB fl 1) (hasB fl 2) (hasB fl 16) := rfl
/-- What is so of a state and of what was seen so far. -/
def StInv (s : Int) (A B E : Bool) : Prop := (1 ≤ s ∧ s ≤ 7) ∧ (B = true → s = 7) ∧ (E = true → 4 ≤ s) ∧ (s = 2 ∨ s = 3 → A = true)
instance (s : Int) (A B E : Bool) : Decidable (StInv s A B E) := by unfold StInv; infer_instance
theorem st_step (s : Int) (A B E : Bool) (h : StInv s A B E) (back : Bool) (fl : Nat) :
    StInv (trackedI s back fl) (A || (back && hasB fl 2)) (B || hasB fl 4) (E || hasB fl 1) ∧ (B = true → trackedI s back fl = 7) ∧ (E = true → trackedI s back fl ≠ 3) ∧ (trackedI s back fl = 3 → A = true ∧ B = false ∧ E = false) := by
  rw [trk_is]
  generalize hasB fl 4 = r
  generalize hasB fl 1 = f
  generalize hasB fl 2 = sy
  generalize hasB fl 16 = ac
  have key : ∀ (x : Fin 8) (A B E back r f sy ac : Bool), StInv (x.val : Nat) A B E → StInv (trk (x.val : Nat) back r f sy ac) (A || (back && sy)) (B || r) (E || f) ∧ (B = true → trk (x.val : Nat) back r f sy ac = 7) ∧ (E = true → trk (x.val : Nat) back r f sy ac ≠ 3) ∧ (trk (x.val : Nat) back r f sy ac = 3 → A = true ∧ B = false ∧ E = false) := by decide +kernel
  obtain ⟨n, rfl⟩ := Int.eq_ofNat_of_zero_le (by have := h.1; omega : 0 ≤ s)
  exact key ⟨n, by have := h.1; omega⟩ A B E back r f sy ac h
theorem st_may (s : Int) (A B E : Bool) (h : StInv s A B E) : mayB 3 s = true := by
  have h1 := h.1
  simp only [mayB, decide_eq_true_eq]
  unfold timeoutI
  rw [if_neg (by omega), if_neg (by omega), if_pos rfl, if_pos h1]
  split <;> omega
theorem rs_step (z : Nat → Bool × Nat) (m : Nat) (h1 : 1 ≤ m) (hm : mayB 3 (rs 3 z (m - 1)) = true) : rs 3 z m = trackedI (rs 3 z (m - 1)) (z m).1 (z m).2 := by
  obtain ⟨j, rfl⟩ : ∃ j, m = j + 1 := ⟨m - 1, by omega⟩
  show nextI 3 (rs 3 z j) _ _ = _
  simp only [Nat.add_sub_cancel] at hm ⊢
  simp [nextI, hm]

set_option maxRecDepth 100000 in
set_option maxHeartbeats 1000000 in
theorem stands_walk (w : World) (a : Option Addr) (len cap : Nat) (z : Nat → Bool × Nat) (hT : Tab w) (hz : StepsAt w a len z) (hl : len ≤ cap) (hm : cap ≤ 9223372036854775807) :
    Calls Tryd.prog 4 #[.slice a len cap] w (Told (.bool true) w) := by
  by_cases h60 : 60 < len
  · go_enter Tryd.func4, Tryd.ntmps4
    go_wp2_with (go_at_call 7; refine (stood_any _ hT).mono ?_; rintro e w1 ⟨rfl, hu⟩)
    go_ret
    exact ⟨rfl, hu⟩
  · go_enter Tryd.func4, Tryd.ntmps4
    go_wp2_with fail
    go_loopw [3, 4, 5, 6, 7] (fun vo va vb ve i wr => ∃ (n m : Nat) (op A B E : Bool), n = m + 1 ∧ m ≤ len ∧ i = .int .i64 n ∧ vo = .bool op ∧ va = .bool A ∧ vb = .bool B ∧ ve = .bool E ∧ Upto NoS w wr ∧
        (m = 0 → A = false ∧ B = false ∧ E = false) ∧ (0 < m → op = true ∧ runOk 3 z 1 = true ∧ StInv (rs 3 z (m - 1)) A B E))
      (fun _ _ _ _ i _ => len + 1 - (intOf i).toNat)
    case atStart => exact ⟨1, 0, false, false, false, false, rfl, by omega, rfl, rfl, rfl, rfl, rfl, Upto.refl _ _, fun _ => ⟨rfl, rfl, rfl⟩, fun h => by omega⟩
    case round =>
      obtain ⟨n, m, op, A, B, E, hnm, hml, rfl, rfl, rfl, rfl, rfl, hu, hq0, hq1⟩ := hrel
      by_cases hlt : n ≤ len
      · have hsub : (n : Int) - 1 = (m : Nat) := by omega
        obtain ⟨hf, b, off, he, hb, d0, d1⟩ := hz m (by omega)
        subst he
        have e0 := hu.keep d0 id
        have e1 := hu.keep d1 id
        have hT1 := (hT.upto hu).alloc (.cells #[.bool (z m).1, .int .u8 ((z m).2 : Nat)] 27)
        have hS1 := ((hz.less hlt).upto hu).upto ((Upto.refl NoS wr).alloc (.cells #[.bool (z m).1, .int .u8 ((z m).2 : Nat)] 27))
        have hU1 := hu.alloc (.cells #[.bool (z m).1, .int .u8 ((z m).2 : Nat)] 27)
        have x0 := new_1 wr #[.bool (z m).1, .int .u8 ((z m).2 : Nat)] 27 0 _ rfl
        have x1 := new_1 wr #[.bool (z m).1, .int .u8 ((z m).2 : Nat)] 27 1 _ rfl
        simp only [List.getElem_toArray, List.getElem_cons_zero, List.getElem_cons_succ] at x0 x1
        have hnc : n ≤ cap := by omega
        clear d0 d1 hb
        by_cases hm0 : m = 0
        · obtain ⟨rfl, rfl, rfl⟩ := hq0 hm0
          clear hq0 hq1
          subst hm0
          obtain rfl : n = 1 := by omega
          simp only [Nat.zero_mul, Nat.add_zero] at e0 e1
          clear hnm hsub
          have hsy := syn_is (z 0).2 hf
          generalize hback : (z 0).1 = back at e0 x0 x1 hT1 hS1 hU1
          cases back
          · cases hs : synB (z 0).2
            · have hv : runV 3 z 1 = .tuple #[.int .i64 0, .bool false] := by simp [runV, runSt, runOk, hback, okF, hs]
              have hb1 : (bits .and .u8 ((z 0).2 : Nat) 23 == 2) = false := hs
              clear hsy hs
              go_wp2_with (first | (go_at_call 8; refine (Run_to _ _ _ _ _ z _ hv hT1 hS1 hnc hm).mono ?_; rintro e w1 ⟨rfl, hu1⟩; have y0 := hu1.keep x0 id; have y1 := hu1.keep x1 id; have hT2 := hT1.upto hu1) | (go_at_call 7; refine (stood_any _ hT2).mono ?_; rintro e w3 ⟨rfl, hu3⟩))
              go_ret
              exact ⟨rfl, (hU1.trans hu1).trans hu3⟩
            · have hok : runOk 3 z 1 = true := by simp [runOk, hback, okF, hs]
              have hv : runV 3 z 1 = .tuple #[.int .i64 1, .bool true] := by simp [runV, runSt, hok, rs]
              have hb1 : bits .and .u8 ((z 0).2 : Nat) 23 = 2 := by simpa [synB] using hs
              have hmay : mayB 3 1 = true := rfl
              rw [hs] at hsy
              have g1 : (bits .and .u8 ((z 0).2 : Nat) 1 != 0) = false := show hasB (z 0).2 1 = false by revert hsy; cases hasB (z 0).2 1 <;> cases hasB (z 0).2 2 <;> simp
              have g4 : (bits .and .u8 ((z 0).2 : Nat) 4 != 0) = false := show hasB (z 0).2 4 = false by revert hsy; cases hasB (z 0).2 4 <;> cases hasB (z 0).2 2 <;> cases hasB (z 0).2 1 <;> simp
              clear hsy hs
              go_wp2_with (first | (go_at_call 8; refine (Run_to _ _ _ _ _ z _ hv hT1 hS1 hnc hm).mono ?_; rintro e w1 ⟨rfl, hu1⟩; have y0 := hu1.keep x0 id; have y1 := hu1.keep x1 id; have hT2 := hT1.upto hu1) | (go_at_call 10; refine (May_to _ 3 _ true hT2 hmay).mono ?_; rintro e w2 ⟨rfl, hu2⟩; have q0 := hu2.keep y0 id; have q1 := hu2.keep y1 id; have hT3 := hT2.upto hu2))
              go_roundw
              case rel => exact ⟨2, 1, _, _, _, _, rfl, by omega, by go_num, rfl, rfl, rfl, rfl, (hU1.trans hu1).trans hu2, fun h => by omega, fun _ => ⟨rfl, hok, (by show StInv 1 false false false; decide)⟩⟩
              case measure => simp [intOf]; omega
          · have hv : runV 3 z 1 = .tuple #[.int .i64 0, .bool false] := by simp [runV, runSt, runOk, hback]
            clear hsy
            go_wp2_with (first | (go_at_call 8; refine (Run_to _ _ _ _ _ z _ hv hT1 hS1 hnc hm).mono ?_; rintro e w1 ⟨rfl, hu1⟩; have y0 := hu1.keep x0 id; have y1 := hu1.keep x1 id; have hT2 := hT1.upto hu1) | (go_at_call 7; refine (stood_any _ hT2).mono ?_; rintro e w3 ⟨rfl, hu3⟩))
            go_ret
            exact ⟨rfl, (hU1.trans hu1).trans hu3⟩
        · obtain ⟨rfl, hok, hI⟩ := hq1 (by omega)
          clear hq0 hq1
          have hn1 : 1 < n := by omega
          have hn0 : ((n : Int) == 1) = false := beq_eq_false_iff_ne.2 (by omega)
          have hrs := rs_step z m (by omega) (st_may _ _ _ _ hI)
          obtain ⟨hI2, i7, i3, i3'⟩ := st_step _ _ _ _ hI (z m).1 (z m).2
          rw [← hrs] at hI2 i7 i3 i3'
          have hmay := st_may _ _ _ _ hI2
          have hokn : runOk 3 z n = true := by simpa [runOk, show 0 < n by omega] using hok
          have hv : runV 3 z n = .tuple #[.int .i64 (rs 3 z m), .bool true] := by simp [runV, runSt, hokn, show n - 1 = m by omega]
          have hI3 : StInv (rs 3 z (m + 1 - 1)) (A || ((z m).1 && hasB (z m).2 2)) (B || hasB (z m).2 4) (E || hasB (z m).2 1) := hI2
          have HI := Lib.hid (And.intro hok hI3)
          have HN := Lib.hid hnm
          clear hI hI2 hI3 hrs hok hokn hnm
          generalize rs 3 z m = st at hv hmay i7 i3 i3'
          generalize hback : (z m).1 = back at e0 x0 x1 hT1 hS1 hU1 HI
          clear hback
          by_cases h3 : st = 3
          · obtain ⟨rfl, rfl, rfl⟩ := i3' h3
            subst h3
            clear i7 i3 i3'
            go_wp2_with (first | (go_at_call 8; refine (Run_to _ _ _ _ _ z _ hv hT1 hS1 hnc hm).mono ?_; rintro e w1 ⟨rfl, hu1⟩; have y0 := hu1.keep x0 id; have y1 := hu1.keep x1 id; have hT2 := hT1.upto hu1) | (go_at_call 10; refine (May_to _ 3 _ true hT2 hmay).mono ?_; rintro e w2 ⟨rfl, hu2⟩; have q0 := hu2.keep y0 id; have q1 := hu2.keep y1 id; have hT3 := hT2.upto hu2))
            go_roundw
            case rel => exact ⟨n + 1, m + 1, _, _, _, _, by rw [HN.out], by omega, by go_num, rfl, rfl, rfl, rfl, (hU1.trans hu1).trans hu2, fun h => by omega, fun _ => ⟨rfl, HI.out⟩⟩
            case measure => simp [intOf]; omega
          · have k3 : (st == 3) = false := beq_eq_false_iff_ne.2 h3
            clear i3 i3'
            cases B
            · clear i7
              cases E
              · cases A
                · cases back
                  · skip
                    go_wp2_with (first | (go_at_call 8; refine (Run_to _ _ _ _ _ z _ hv hT1 hS1 hnc hm).mono ?_; rintro e w1 ⟨rfl, hu1⟩; have y0 := hu1.keep x0 id; have y1 := hu1.keep x1 id; have hT2 := hT1.upto hu1) | (go_at_call 10; refine (May_to _ 3 _ true hT2 hmay).mono ?_; rintro e w2 ⟨rfl, hu2⟩; have q0 := hu2.keep y0 id; have q1 := hu2.keep y1 id; have hT3 := hT2.upto hu2))
                    go_roundw
                    case rel => exact ⟨n + 1, m + 1, _, _, _, _, by rw [HN.out], by omega, by go_num, rfl, rfl, rfl, rfl, (hU1.trans hu1).trans hu2, fun h => by omega, fun _ => ⟨rfl, HI.out⟩⟩
                    case measure => simp [intOf]; omega
                  · skip
                    go_wp2_with (first | (go_at_call 8; refine (Run_to _ _ _ _ _ z _ hv hT1 hS1 hnc hm).mono ?_; rintro e w1 ⟨rfl, hu1⟩; have y0 := hu1.keep x0 id; have y1 := hu1.keep x1 id; have hT2 := hT1.upto hu1) | (go_at_call 10; refine (May_to _ 3 _ true hT2 hmay).mono ?_; rintro e w2 ⟨rfl, hu2⟩; have q0 := hu2.keep y0 id; have q1 := hu2.keep y1 id; have hT3 := hT2.upto hu2))
                    go_roundw
                    case rel => exact ⟨n + 1, m + 1, _, _, _, _, by rw [HN.out], by omega, by go_num, rfl, rfl, rfl, rfl, (hU1.trans hu1).trans hu2, fun h => by omega, fun _ => ⟨rfl, HI.out⟩⟩
                    case measure => simp [intOf]; omega
                · skip
                  go_wp2_with (first | (go_at_call 8; refine (Run_to _ _ _ _ _ z _ hv hT1 hS1 hnc hm).mono ?_; rintro e w1 ⟨rfl, hu1⟩; have y0 := hu1.keep x0 id; have y1 := hu1.keep x1 id; have hT2 := hT1.upto hu1) | (go_at_call 10; refine (May_to _ 3 _ true hT2 hmay).mono ?_; rintro e w2 ⟨rfl, hu2⟩; have q0 := hu2.keep y0 id; have q1 := hu2.keep y1 id; have hT3 := hT2.upto hu2))
                  go_roundw
                  case rel => exact ⟨n + 1, m + 1, _, _, _, _, by rw [HN.out], by omega, by go_num, rfl, rfl, rfl, rfl, (hU1.trans hu1).trans hu2, fun h => by omega, fun _ => ⟨rfl, HI.out⟩⟩
                  case measure => simp [intOf]; omega
              · cases A
                · cases back
                  · skip
                    go_wp2_with (first | (go_at_call 8; refine (Run_to _ _ _ _ _ z _ hv hT1 hS1 hnc hm).mono ?_; rintro e w1 ⟨rfl, hu1⟩; have y0 := hu1.keep x0 id; have y1 := hu1.keep x1 id; have hT2 := hT1.upto hu1) | (go_at_call 10; refine (May_to _ 3 _ true hT2 hmay).mono ?_; rintro e w2 ⟨rfl, hu2⟩; have q0 := hu2.keep y0 id; have q1 := hu2.keep y1 id; have hT3 := hT2.upto hu2))
                    go_roundw
                    case rel => exact ⟨n + 1, m + 1, _, _, _, _, by rw [HN.out], by omega, by go_num, rfl, rfl, rfl, rfl, (hU1.trans hu1).trans hu2, fun h => by omega, fun _ => ⟨rfl, HI.out⟩⟩
                    case measure => simp [intOf]; omega
                  · skip
                    go_wp2_with (first | (go_at_call 8; refine (Run_to _ _ _ _ _ z _ hv hT1 hS1 hnc hm).mono ?_; rintro e w1 ⟨rfl, hu1⟩; have y0 := hu1.keep x0 id; have y1 := hu1.keep x1 id; have hT2 := hT1.upto hu1) | (go_at_call 10; refine (May_to _ 3 _ true hT2 hmay).mono ?_; rintro e w2 ⟨rfl, hu2⟩; have q0 := hu2.keep y0 id; have q1 := hu2.keep y1 id; have hT3 := hT2.upto hu2))
                    go_roundw
                    case rel => exact ⟨n + 1, m + 1, _, _, _, _, by rw [HN.out], by omega, by go_num, rfl, rfl, rfl, rfl, (hU1.trans hu1).trans hu2, fun h => by omega, fun _ => ⟨rfl, HI.out⟩⟩
                    case measure => simp [intOf]; omega
                · skip
                  go_wp2_with (first | (go_at_call 8; refine (Run_to _ _ _ _ _ z _ hv hT1 hS1 hnc hm).mono ?_; rintro e w1 ⟨rfl, hu1⟩; have y0 := hu1.keep x0 id; have y1 := hu1.keep x1 id; have hT2 := hT1.upto hu1) | (go_at_call 10; refine (May_to _ 3 _ true hT2 hmay).mono ?_; rintro e w2 ⟨rfl, hu2⟩; have q0 := hu2.keep y0 id; have q1 := hu2.keep y1 id; have hT3 := hT2.upto hu2))
                  go_roundw
                  case rel => exact ⟨n + 1, m + 1, _, _, _, _, by rw [HN.out], by omega, by go_num, rfl, rfl, rfl, rfl, (hU1.trans hu1).trans hu2, fun h => by omega, fun _ => ⟨rfl, HI.out⟩⟩
                  case measure => simp [intOf]; omega
            · have k7 : (st != 7) = false := by simp [i7 rfl]
              clear i7
              cases E
              · cases A
                · cases back
                  · skip
                    go_wp2_with (first | (go_at_call 8; refine (Run_to _ _ _ _ _ z _ hv hT1 hS1 hnc hm).mono ?_; rintro e w1 ⟨rfl, hu1⟩; have y0 := hu1.keep x0 id; have y1 := hu1.keep x1 id; have hT2 := hT1.upto hu1) | (go_at_call 10; refine (May_to _ 3 _ true hT2 hmay).mono ?_; rintro e w2 ⟨rfl, hu2⟩; have q0 := hu2.keep y0 id; have q1 := hu2.keep y1 id; have hT3 := hT2.upto hu2))
                    go_roundw
                    case rel => exact ⟨n + 1, m + 1, _, _, _, _, by rw [HN.out], by omega, by go_num, rfl, rfl, rfl, rfl, (hU1.trans hu1).trans hu2, fun h => by omega, fun _ => ⟨rfl, HI.out⟩⟩
                    case measure => simp [intOf]; omega
                  · skip
                    go_wp2_with (first | (go_at_call 8; refine (Run_to _ _ _ _ _ z _ hv hT1 hS1 hnc hm).mono ?_; rintro e w1 ⟨rfl, hu1⟩; have y0 := hu1.keep x0 id; have y1 := hu1.keep x1 id; have hT2 := hT1.upto hu1) | (go_at_call 10; refine (May_to _ 3 _ true hT2 hmay).mono ?_; rintro e w2 ⟨rfl, hu2⟩; have q0 := hu2.keep y0 id; have q1 := hu2.keep y1 id; have hT3 := hT2.upto hu2))
                    go_roundw
                    case rel => exact ⟨n + 1, m + 1, _, _, _, _, by rw [HN.out], by omega, by go_num, rfl, rfl, rfl, rfl, (hU1.trans hu1).trans hu2, fun h => by omega, fun _ => ⟨rfl, HI.out⟩⟩
                    case measure => simp [intOf]; omega
                · skip
                  go_wp2_with (first | (go_at_call 8; refine (Run_to _ _ _ _ _ z _ hv hT1 hS1 hnc hm).mono ?_; rintro e w1 ⟨rfl, hu1⟩; have y0 := hu1.keep x0 id; have y1 := hu1.keep x1 id; have hT2 := hT1.upto hu1) | (go_at_call 10; refine (May_to _ 3 _ true hT2 hmay).mono ?_; rintro e w2 ⟨rfl, hu2⟩; have q0 := hu2.keep y0 id; have q1 := hu2.keep y1 id; have hT3 := hT2.upto hu2))
                  go_roundw
                  case rel => exact ⟨n + 1, m + 1, _, _, _, _, by rw [HN.out], by omega, by go_num, rfl, rfl, rfl, rfl, (hU1.trans hu1).trans hu2, fun h => by omega, fun _ => ⟨rfl, HI.out⟩⟩
                  case measure => simp [intOf]; omega
              · cases A
                · cases back
                  · skip
                    go_wp2_with (first | (go_at_call 8; refine (Run_to _ _ _ _ _ z _ hv hT1 hS1 hnc hm).mono ?_; rintro e w1 ⟨rfl, hu1⟩; have y0 := hu1.keep x0 id; have y1 := hu1.keep x1 id; have hT2 := hT1.upto hu1) | (go_at_call 10; refine (May_to _ 3 _ true hT2 hmay).mono ?_; rintro e w2 ⟨rfl, hu2⟩; have q0 := hu2.keep y0 id; have q1 := hu2.keep y1 id; have hT3 := hT2.upto hu2))
                    go_roundw
                    case rel => exact ⟨n + 1, m + 1, _, _, _, _, by rw [HN.out], by omega, by go_num, rfl, rfl, rfl, rfl, (hU1.trans hu1).trans hu2, fun h => by omega, fun _ => ⟨rfl, HI.out⟩⟩
                    case measure => simp [intOf]; omega
                  · skip
                    go_wp2_with (first | (go_at_call 8; refine (Run_to _ _ _ _ _ z _ hv hT1 hS1 hnc hm).mono ?_; rintro e w1 ⟨rfl, hu1⟩; have y0 := hu1.keep x0 id; have y1 := hu1.keep x1 id; have hT2 := hT1.upto hu1) | (go_at_call 10; refine (May_to _ 3 _ true hT2 hmay).mono ?_; rintro e w2 ⟨rfl, hu2⟩; have q0 := hu2.keep y0 id; have q1 := hu2.keep y1 id; have hT3 := hT2.upto hu2))
                    go_roundw
                    case rel => exact ⟨n + 1, m + 1, _, _, _, _, by rw [HN.out], by omega, by go_num, rfl, rfl, rfl, rfl, (hU1.trans hu1).trans hu2, fun h => by omega, fun _ => ⟨rfl, HI.out⟩⟩
                    case measure => simp [intOf]; omega
                · skip
                  go_wp2_with (first | (go_at_call 8; refine (Run_to _ _ _ _ _ z _ hv hT1 hS1 hnc hm).mono ?_; rintro e w1 ⟨rfl, hu1⟩; have y0 := hu1.keep x0 id; have y1 := hu1.keep x1 id; have hT2 := hT1.upto hu1) | (go_at_call 10; refine (May_to _ 3 _ true hT2 hmay).mono ?_; rintro e w2 ⟨rfl, hu2⟩; have q0 := hu2.keep y0 id; have q1 := hu2.keep y1 id; have hT3 := hT2.upto hu2))
                  go_roundw
                  case rel => exact ⟨n + 1, m + 1, _, _, _, _, by rw [HN.out], by omega, by go_num, rfl, rfl, rfl, rfl, (hU1.trans hu1).trans hu2, fun h => by omega, fun _ => ⟨rfl, HI.out⟩⟩
                  case measure => simp [intOf]; omega
      · go_wp2_with (go_at_call 7; refine (stood_any _ (hT.upto hu)).mono ?_; rintro e w2 ⟨rfl, hu2⟩)
        go_ret
        exact ⟨rfl, hu.trans hu2⟩
end Go.Proofs.YtmgipmpnejphoaaDoor
