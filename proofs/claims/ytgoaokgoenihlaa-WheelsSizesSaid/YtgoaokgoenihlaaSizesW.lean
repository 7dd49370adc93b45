/- WheelsSizes, walked. -/
import Derived.Test.YtgoaokgoenihlaaTwo
import Derived.Test.YtgoaokgoenihlaaLastOp
namespace Go.Proofs.Ytgoaokgoenihlaa
open Go Go.RowKit Go.Deep Go.Maps

set_option maxRecDepth 100000 in
set_option maxHeartbeats 1000000 in
theorem sizes_walk (s0 s1 : Nat) (a0 : Option Addr) (len cap : Nat) (z : Nat → ActV) (w : World) (h0 : s0 < 256) (h1 : s1 < 256) (hm : len ≤ 9223372036854775807) (hz : ActsAt w a0 len z) :
    Calls Try.prog 5 #[.agg #[.int .u8 (s0 : Nat), .int .u8 (s1 : Nat)], .slice a0 len cap] w (Told (.bool true) w) := by
  obtain ⟨na, hna⟩ : ∃ n, n = 1 + s0 % 64 := ⟨_, rfl⟩
  obtain ⟨nb, hnb⟩ : ∃ n, n = 1 + s1 % 64 := ⟨_, rfl⟩
  have ha1 : 1 ≤ na := by omega
  have ha2 : na ≤ 64 := by omega
  have hb1 : 1 ≤ nb := by omega
  have hb2 : nb ≤ 64 := by omega
  have hxa : (1 : Int) + (s0 : Int) % 64 = na := by omega
  have hxb : (1 : Int) + (s1 : Int) % 64 = nb := by omega
  clear hna hnb
  have hu00 : Upto NoS w (w.alloc (.cells #[.int .u8 (s0 : Nat), .int .u8 (s1 : Nat)] 47)) := (Upto.refl _ w).alloc _
  have b0 := new_1 w #[.int .u8 (s0 : Nat), .int .u8 (s1 : Nat)] 47 0 (.int .u8 (s0 : Nat)) rfl
  have b1 := new_1 w #[.int .u8 (s0 : Nat), .int .u8 (s1 : Nat)] 47 1 (.int .u8 (s1 : Nat)) rfl
  have HZ := Lib.hid hz
  clear hz
  by_cases hlen : 150 < len
  · go_enter Try.func5, Try.ntmps5
    go_wp2_with (first
      | (go_at_call 8; (with_reducible refine (W_new w _ na ha1 ha2 hu00 (fun _ => False) (fun _ h => h.elim)).mono ?_); rintro e w1 ⟨xa, Oa0, rfl, hWa, hu1⟩; have b1 := hu1.keep b1 id)
      | (go_at_call 8; (with_reducible refine (W_new w _ nb hb1 hb2 (hu00.trans hu1) (fun k => Oa0 k) hWa.olt).mono ?_); rintro e w2 ⟨xb, Ob0, rfl, hWb, hu2⟩)
      | (go_at_call 9; refine (timed_any _).mono ?_; rintro e w3 ⟨rfl, hu⟩))
    go_ret
    exact ⟨rfl, hWb.u.trans hu⟩
  · go_enter Try.func5, Try.ntmps5
    go_wp2_with (first
      | (go_at_call 8; (with_reducible refine (W_new w _ na ha1 ha2 hu00 (fun _ => False) (fun _ h => h.elim)).mono ?_); rintro e w1 ⟨xa, Oa0, rfl, hWa, hu1⟩; have b1 := hu1.keep b1 id)
      | (go_at_call 8; (with_reducible refine (W_new w _ nb hb1 hb2 (hu00.trans hu1) (fun k => Oa0 k) hWa.olt).mono ?_); rintro e w2 ⟨xb, Ob0, rfl, hWb, hu2⟩))
    have hT : Two w w2 xa xb Oa0 Ob0 ⟨na, 0, []⟩ ⟨nb, 0, []⟩ (fun _ => False) := Two.start hWa hu2 hWb
    have HT := Lib.hid hT
    clear hxa hxb hWa hWb hu1 hu2 hT b0 b1 hu00
    go_loopw [9, 10] (fun last i wr => ∃ (k l : Nat) (E : List Tm), k ≤ len ∧ last = .int .i64 l ∧ i = .int .i64 k ∧ l ≤ 1099511627776 ∧ Hid (E.length ≤ k) ∧ Hid (∃ Oa Ob, Two w wr xa xb Oa Ob ⟨na, l, E⟩ ⟨nb, l, E⟩ (fun _ => False))) (fun _ i _ => len - (intOf i).toNat)
    case atStart => exact ⟨0, 0, [], by omega, rfl, rfl, by omega, Lib.hid (Nat.le_refl _), Lib.hid ⟨_, _, HT.out⟩⟩
    case round =>
      clear HT
      obtain ⟨k, l, E, hk, rfl, rfl, hl, HE, HD⟩ := hrel
      obtain ⟨Oa, Ob, hT⟩ := HD.out
      clear HD
      by_cases hlt : k < len
      · obtain ⟨hzk, bo, off, ha, hbo, hA⟩ := HZ.out k hlt
        have hAr := hA.upto hT.a.u
        obtain ⟨g0, g1, g2, g3, g4, g5⟩ := hAr
        subst ha
        have z0 : (0 : Int) ≤ (k : Int) := by omega
        have z1 : (k : Int) < (len : Int) := by omega
        clear hA
        have n0 := new_1 wr (acs (z k)).toArray 43 0 (.int .u8 ((z k).kind : Nat)) rfl
        have n1 := new_1 wr (acs (z k)).toArray 43 1 (.int .u8 ((z k).h : Nat)) rfl
        have n2 := new_1 wr (acs (z k)).toArray 43 2 (.int .u16 ((z k).by_ : Nat)) rfl
        have hT1 := hT.quiet ((Upto.refl NoS wr).alloc (.cells (acs (z k)).toArray 43))
        have hby := hzk.by_
        have hkn := hzk.kind
        have HHN := Lib.hid hzk.h
        obtain ⟨d, hd⟩ : ∃ d, d = min (l + (z k).by_ * (z k).by_) 1099511627776 := ⟨_, rfl⟩
        have hne : wr.heap.size < (wr.alloc (.cells (acs (z k)).toArray 43)).heap.size := by simp
        clear hT hzk
        go_upto_region 10 with (fail)
        generalize wr.alloc (.cells #[.int .u8 ((z k).kind : Nat), .int .u8 ((z k).h : Nat), .int .u16 ((z k).by_ : Nat), .int .i64 (z k).raw.s, .int .u32 ((z k).raw.g : Nat), .int .i64 (z k).n] 43) = W at n0 n1 n2 hT1 hne ⊢
        generalize wr.heap.size = bx at n0 n1 n2 hne ⊢
        replace hne : ¬ W.heap.size = bx := by omega
        clear g0 g1 g2 g3 g4 g5
        have hwd : IntKind.i64.wrap ((l : Int) + IntKind.i64.wrap (IntKind.i64.wrap ((z k).by_ : Int) * IntKind.i64.wrap ((z k).by_ : Int))) = ((l + (z k).by_ * (z k).by_ : Nat) : Int) := by
          have h1 : ((z k).by_ : Int) * ((z k).by_ : Int) ≤ 4294836225 := by
            have := Nat.mul_le_mul (show (z k).by_ ≤ 65535 by omega) (show (z k).by_ ≤ 65535 by omega)
            have h2 : (((z k).by_ * (z k).by_ : Nat) : Int) ≤ 4294836225 := by omega
            rwa [Int.natCast_mul] at h2
          have h0 : 0 ≤ ((z k).by_ : Int) * ((z k).by_ : Int) := Int.mul_nonneg (by omega) (by omega)
          rw [IntWalk.i64_in ((z k).by_ : Int) (by omega), IntWalk.i64_in (_ * _) (by omega), IntWalk.i64_in _ (by omega)]
          simp
        have hmind : min ((l + (z k).by_ * (z k).by_ : Nat) : Int) 1099511627776 = (d : Nat) := by rw [hd]; omega
        have hld : l ≤ d := by rw [hd]; exact Nat.le_min.2 ⟨Nat.le_add_right _ _, hl⟩
        have hdm : d ≤ 1099511627776 := by rw [hd]; exact Nat.min_le_right _ _
        clear hd
        generalize l + (z k).by_ * (z k).by_ = ls at hwd hmind
        go_cut [12, 13] (fun p n wc => ∃ hb, p = .pointer (some ⟨hb, 0, none⟩) ∧ n = .int .i64 (d : Nat) ∧ wc.rowIs hb 31 2 (hRow (hN (z k).h)) ∧ wc.cell? ⟨bx, 0, none⟩ = some (.int .u8 ((z k).kind : Nat)) ∧ Two w wc xa xb Oa Ob ⟨na, l, E⟩ ⟨nb, l, E⟩ (fun i => i = hb))
        case first =>
          refine E_start (S := fun w' => w'.cell? ⟨bx, 1, none⟩ = some (.int .u8 ((z k).h : Nat)) ∧ w'.cell? ⟨bx, 2, none⟩ = some (.int .u16 ((z k).by_ : Nat))) 15 (by kernel_rfl) ⟨n1, n2⟩ (fun hHeld => ?_)
          refine E_take (i := 0) (v := ?_) rfl (by kernel_rfl) (by kernel_rfl) (by kernel_rfl) (by kernel_rfl) (fun _ _ _ h => h) (Or.inl ⟨by rfl, ?_⟩) (by assumption) ?_
          rotate_left
          · ((intro w hSw; (try dsimp only at hSw); go_simp); (try with_reducible rfl))
          try simp only [Act.put, List.getElem_toArray, List.getElem_cons_zero, List.getElem_cons_succ, List.setIfInBounds_toArray, List.set_cons_zero, List.set_cons_succ]
          refine E_take (i := 1) (v := ?_) rfl (by kernel_rfl) (by kernel_rfl) (by kernel_rfl) (by kernel_rfl) (fun _ _ _ h => h) (Or.inl ⟨by rfl, ?_⟩) (by assumption) ?_
          rotate_left
          · ((intro w hSw; (try dsimp only at hSw); go_simp); (try with_reducible rfl))
          try simp only [Act.put, List.getElem_toArray, List.getElem_cons_zero, List.getElem_cons_succ, List.setIfInBounds_toArray, List.set_cons_zero, List.set_cons_succ]
          refine E_take (i := 3) (v := ?_) rfl (by kernel_rfl) (by kernel_rfl) (by kernel_rfl) (by kernel_rfl) (fun _ _ _ h => h) (Or.inl ⟨by rfl, ?_⟩) (by assumption) ?_
          rotate_left
          · ((intro w hSw; (try dsimp only at hSw); go_simp); (try with_reducible rfl))
          try simp only [Act.put, List.getElem_toArray, List.getElem_cons_zero, List.getElem_cons_succ, List.setIfInBounds_toArray, List.set_cons_zero, List.set_cons_succ]
          refine E_take (i := 4) (v := ?_) rfl (by kernel_rfl) (by kernel_rfl) (by kernel_rfl) (by kernel_rfl) (fun _ _ _ h => h) (Or.inl ⟨by rfl, ?_⟩) (by assumption) ?_
          rotate_left
          · ((intro w hSw; (try dsimp only at hSw); go_simp); (try with_reducible rfl))
          try simp only [Act.put, List.getElem_toArray, List.getElem_cons_zero, List.getElem_cons_succ, List.setIfInBounds_toArray, List.set_cons_zero, List.set_cons_succ]
          refine E_take (i := 5) (v := ?_) rfl (by kernel_rfl) (by kernel_rfl) (by kernel_rfl) (by kernel_rfl) (fun _ _ _ h => h) (Or.inl ⟨by rfl, ?_⟩) (by assumption) ?_
          rotate_left
          · ((intro w hSw; (try dsimp only at hSw); go_simp); (try with_reducible rfl))
          try simp only [Act.put, List.getElem_toArray, List.getElem_cons_zero, List.getElem_cons_succ, List.setIfInBounds_toArray, List.set_cons_zero, List.set_cons_succ]
          refine E_take (i := 6) (v := ?_) rfl (by kernel_rfl) (by kernel_rfl) (by kernel_rfl) (by kernel_rfl) (fun _ _ _ h => h) (Or.inl ⟨by rfl, ?_⟩) (by assumption) ?_
          rotate_left
          · ((intro w hSw; (try dsimp only at hSw); go_simp); (try with_reducible rfl))
          try simp only [Act.put, List.getElem_toArray, List.getElem_cons_zero, List.getElem_cons_succ, List.setIfInBounds_toArray, List.set_cons_zero, List.set_cons_succ]
          refine E_take (i := 7) (v := ?_) rfl (by kernel_rfl) (by kernel_rfl) (by kernel_rfl) (by kernel_rfl) (fun _ _ _ h => h) (Or.inl ⟨by rfl, ?_⟩) (by assumption) ?_
          rotate_left
          · ((intro w hSw; (try dsimp only at hSw); go_simp); (try with_reducible rfl))
          try simp only [Act.put, List.getElem_toArray, List.getElem_cons_zero, List.getElem_cons_succ, List.setIfInBounds_toArray, List.set_cons_zero, List.set_cons_succ]
          refine E_take (i := 8) (v := ?_) rfl (by kernel_rfl) (by kernel_rfl) (by kernel_rfl) (by kernel_rfl) (fun _ _ _ h => h) (Or.inl ⟨by rfl, ?_⟩) (by assumption) ?_
          rotate_left
          · ((intro w hSw; (try dsimp only at hSw); go_simp); (try with_reducible rfl))
          try simp only [Act.put, List.getElem_toArray, List.getElem_cons_zero, List.getElem_cons_succ, List.setIfInBounds_toArray, List.set_cons_zero, List.set_cons_succ]
          refine E_take (i := 9) (v := ?_) rfl (by kernel_rfl) (by kernel_rfl) (by kernel_rfl) (by kernel_rfl) (fun _ _ _ h => h) (Or.inl ⟨by rfl, ?_⟩) (by assumption) ?_
          rotate_left
          · ((intro w hSw; (try dsimp only at hSw); go_simp); (try with_reducible rfl))
          try simp only [Act.put, List.getElem_toArray, List.getElem_cons_zero, List.getElem_cons_succ, List.setIfInBounds_toArray, List.set_cons_zero, List.set_cons_succ]
          refine E_take (i := 10) (v := ?_) rfl (by kernel_rfl) (by kernel_rfl) (by kernel_rfl) (by kernel_rfl) (fun _ _ _ h => h) (Or.inl ⟨by rfl, ?_⟩) (by assumption) ?_
          rotate_left
          · ((intro w hSw; (try dsimp only at hSw); go_simp); (try with_reducible rfl))
          try simp only [Act.put, List.getElem_toArray, List.getElem_cons_zero, List.getElem_cons_succ, List.setIfInBounds_toArray, List.set_cons_zero, List.set_cons_succ]
          refine E_take (i := 11) (v := ?_) rfl (by kernel_rfl) (by kernel_rfl) (by kernel_rfl) (by kernel_rfl) (fun _ _ _ h => h) (Or.inl ⟨by rfl, ?_⟩) (by assumption) ?_
          rotate_left
          · ((intro w hSw; (try dsimp only at hSw); go_simp); (try with_reducible rfl))
          try simp only [Act.put, List.getElem_toArray, List.getElem_cons_zero, List.getElem_cons_succ, List.setIfInBounds_toArray, List.set_cons_zero, List.set_cons_succ]
          refine E_take (i := 12) (v := .int .i64 (d : Nat)) rfl (by kernel_rfl) (by kernel_rfl) (by kernel_rfl) (by kernel_rfl) (fun _ _ _ h => h) (Or.inl ⟨by rfl, ?_⟩) (by assumption) ?_
          · (intro w hSw; (try dsimp only at hSw); go_simp; try (with_reducible rfl))
          try simp only [Act.put, List.getElem_toArray, List.getElem_cons_zero, List.getElem_cons_succ, List.setIfInBounds_toArray, List.set_cons_zero, List.set_cons_succ]
          refine E_two (i := 2) (j := 13) (by kernel_rfl) rfl rfl (fun K hK => ?_) (fun K hK => ?_)
          · go_simp
            go_at_call 14
            (with_reducible refine (handle_any _ (z k).h HHN.out).mono ?_)
            rintro e w9 ⟨rfl, hu9⟩
            refine hK.out _ _ (.inr ⟨hu9.keep n1 id, hu9.keep n2 id⟩) (fun hHeld => ?_)
            clear hK K
            try simp only [Act.put, List.getElem_toArray, List.getElem_cons_zero, List.getElem_cons_succ, List.setIfInBounds_toArray, List.set_cons_zero, List.set_cons_succ]
            refine E_one (i := 13) (by kernel_rfl) rfl (fun K hK => ?_)
            go_simp
            refine hK.out _ _ (.inr ⟨keep_alloc (hu9.keep n1 id) _, keep_alloc (hu9.keep n2 id) _⟩) (fun hHeld => ?_)
            clear hK K
            try simp only [Act.put, List.getElem_toArray, List.getElem_cons_zero, List.getElem_cons_succ, List.setIfInBounds_toArray, List.set_cons_zero, List.set_cons_succ]
            refine E_one (i := 14) (by kernel_rfl) rfl (fun K hK => ?_)
            go_simp
            refine hK.out _ _ (.inr ⟨keep_alloc (hu9.keep n1 id) _, keep_alloc (hu9.keep n2 id) _⟩) (fun hHeld => ?_)
            clear hK K
            try simp only [Act.put, List.getElem_toArray, List.getElem_cons_zero, List.getElem_cons_succ, List.setIfInBounds_toArray, List.set_cons_zero, List.set_cons_succ]
            refine E_one (i := 15) (by kernel_rfl) rfl (fun K hK => ?_)
            go_simp
            refine hK.out _ _ (.inl rfl) (fun hHeld => ?_)
            clear hK K
            try simp only [Act.put, List.getElem_toArray, List.getElem_cons_zero, List.getElem_cons_succ, List.setIfInBounds_toArray, List.set_cons_zero, List.set_cons_succ]
            refine E_done (by kernel_rfl) ?_ _
            go_wp2_with fail
            go_meet
            case rel =>
              have hu : Upto NoS W (w9.alloc (.cells #[.int .i64 (hN (z k).h).s, .int .u32 ((hN (z k).h).g : Nat)] 31)) := ((Upto.refl NoS W).drew.trans hu9).alloc _
              exact ⟨_, rfl, rfl, hn_row w9 _, hu.keep n0 id, hT1.add hu (fun i (e : i = _) => .inr ⟨by rw [e]; exact (show W.heap.size ≤ w9.heap.size from hu9.size), by rw [e]; simp⟩)⟩
          · go_simp
            refine hK.out _ _ (.inr ⟨keep_alloc n1 _, keep_alloc n2 _⟩) (fun hHeld => ?_)
            clear hK K
            try simp only [Act.put, List.getElem_toArray, List.getElem_cons_zero, List.getElem_cons_succ, List.setIfInBounds_toArray, List.set_cons_zero, List.set_cons_succ]
            refine E_one (i := 2) (by kernel_rfl) rfl (fun K hK => ?_)
            go_simp
            go_at_call 14
            (with_reducible refine (handle_any _ (z k).h HHN.out).mono ?_)
            rintro e w9 ⟨rfl, hu9⟩
            have hR9 := hu9.row (zero_row W.drew) id
            have k0 : w9.cell? ⟨W.heap.size, 0, none⟩ = some (.int .i64 0) := hR9.cell (i := 0) (by omega)
            have k1 : w9.cell? ⟨W.heap.size, 1, none⟩ = some (.int .u32 0) := hR9.cell (i := 1) (by omega)
            have f0 : w9.frozen? ⟨W.heap.size, 0, none⟩ = false := hR9.frozen 0
            have f1 : w9.frozen? ⟨W.heap.size, 1, none⟩ = false := hR9.frozen 1
            refine hK.out _ _ (.inr ⟨hu9.keep (keep_alloc n1 _) id, hu9.keep (keep_alloc n2 _) id⟩) (fun hHeld => ?_)
            clear hK K
            try simp only [Act.put, List.getElem_toArray, List.getElem_cons_zero, List.getElem_cons_succ, List.setIfInBounds_toArray, List.set_cons_zero, List.set_cons_succ]
            refine E_one (i := 14) (by kernel_rfl) rfl (fun K hK => ?_)
            go_simp
            refine hK.out _ _ (.inr ⟨far2 hne (hu9.keep (keep_alloc n1 _) id), far2 hne (hu9.keep (keep_alloc n2 _) id)⟩) (fun hHeld => ?_)
            clear hK K
            try simp only [Act.put, List.getElem_toArray, List.getElem_cons_zero, List.getElem_cons_succ, List.setIfInBounds_toArray, List.set_cons_zero, List.set_cons_succ]
            refine E_one (i := 15) (by kernel_rfl) rfl (fun K hK => ?_)
            go_simp
            refine hK.out _ _ (.inl rfl) (fun hHeld => ?_)
            clear hK K
            try simp only [Act.put, List.getElem_toArray, List.getElem_cons_zero, List.getElem_cons_succ, List.setIfInBounds_toArray, List.set_cons_zero, List.set_cons_succ]
            refine E_done (by kernel_rfl) ?_ _
            go_wp2_with fail
            go_meet
            case rel =>
              have hu : Upto NoS W ((w9.setCell ⟨W.heap.size, 0, none⟩ (.int .i64 (hN (z k).h).s)).setCell ⟨W.heap.size, 1, none⟩ (.int .u32 ((hN (z k).h).g : Nat))) := ((((Upto.refl NoS W).drew.alloc _).trans hu9).setNew (Nat.le_refl _) _).setNew (Nat.le_refl _) _
              have hsz : W.heap.size + 1 ≤ w9.heap.size := by have := hu9.size; simpa using this
              exact ⟨_, rfl, rfl, set_row hR9 _, hu.keep n0 id, hT1.add hu (fun i (e : i = _) => .inr ⟨by rw [e]; exact Nat.le_refl _, by rw [e]; simp; omega⟩)⟩
        case rest =>
          obtain ⟨hb, rfl, rfl, hR, hk0, hT⟩ := hcut
          have HT := Lib.hid hT
          have q0 : wc.cell? ⟨hb, 0, none⟩ = some (.int .i64 (hN (z k).h).s) := hR.cell (i := 0) (by omega)
          have q1 : wc.cell? ⟨hb, 1, none⟩ = some (.int .u32 ((hN (z k).h).g : Nat)) := hR.cell (i := 1) (by omega)
          have HOK := Lib.hid (hN_ok (z k).h)
          obtain ⟨r, hr⟩ : ∃ r : Nat, (((z k).kind : Nat) : Int) % 6 = r := ⟨(z k).kind % 6, by simp⟩
          have hr6 : r < 6 := by omega
          generalize hN (z k).h = a at q0 q1 HOK hR ⊢
          obtain ⟨sa, ga⟩ := a
          clear hT n0 n1 n2 hT1 hwd hmind hR
          go_upto_block 2 with (fail)
          rw [hr]
          clear hr hk0
          have hEk := HE.out
          have HLI : Hid (Lies ⟨sa, ga⟩ sa (ga : Nat)) := Lib.hid ⟨rfl, rfl⟩
          go_cut [9, 14] (fun u v wd => ∃ (l' : Nat) (E' : List Tm), u = .int .i64 l' ∧ v = .bool true ∧ l' ≤ 1099511627776 ∧ Hid (E'.length ≤ k + 1) ∧ Hid (∃ Oa Ob K, Two w wd xa xb Oa Ob ⟨na, l', E'⟩ ⟨nb, l', E'⟩ K))
          case first =>
            rcases (show r = 0 ∨ r = 1 ∨ r = 2 ∨ r = 3 ∨ r = 4 ∨ r = 5 by omega) with hc | hc | hc | hc | hc | hc
            · subst hc
              have e3 : ((0 : Int) == 3) = false := rfl
              have e4 : ((0 : Int) == 4) = false := rfl
              have e5 : ((0 : Int) == 5) = false := rfl
              obtain ⟨q, hq⟩ : ∃ q, putR E ⟨sa, ga⟩ = q := ⟨_, rfl⟩
              have hqq : (q == q) = true := by simp
              have HSA := Lib.hid (sz_put na l E ⟨sa, ga⟩ hdm)
              have HSB := Lib.hid (sz_put nb l E ⟨sa, ga⟩ hdm)
              rw [hq] at HSA HSB
              have hT1 := HT.out.quiet (Upto.refl NoS wc).drew
              have HSM : Hid (E.length < 1000000) := Lib.hid (by omega)
              clear hq
              go_upto_region 13 with (fail)
              go_region_held3 (fun w' => w'.cell? ⟨hb, 0, none⟩ = some (.int .i64 sa) ∧ w'.cell? ⟨hb, 1, none⟩ = some (.int .u32 (ga : Nat)))
                (first | exact ⟨q0, q1⟩ | exact ⟨hu2.keep q0 (fun h => h rfl), hu2.keep q1 (fun h => h rfl)⟩ | exact ⟨hu3.keep (hu2.keep q0 (fun h => h rfl)) (fun h => h rfl), hu3.keep (hu2.keep q1 (fun h => h rfl)) (fun h => h rfl)⟩)
                (first | (go_at_call 10; (with_reducible refine (put_a hT1 ⟨sa, ga⟩ _ HLI.out HOK.out HSM.out HSA.out.1 HSA.out.2).mono ?_); rintro e w2 ⟨rfl, Oe, hT2, hu2⟩) | (go_at_call 10; (with_reducible refine (put_b hT2 ⟨sa, ga⟩ _ HLI.out HOK.out HSM.out HSB.out.1 HSB.out.2).mono ?_); rintro e w3 ⟨rfl, Of, hT3, hu3⟩))
              go_wp2_with fail
              go_meet
              case rel => exact ⟨l, _, rfl, rfl, hl, Lib.hid (Nat.le_trans (putL_le _ _ _) (by omega)), Lib.hid ⟨_, _, _, hT3⟩⟩
            · subst hc
              have e3 : ((1 : Int) == 3) = false := rfl
              have e4 : ((1 : Int) == 4) = false := rfl
              have e5 : ((1 : Int) == 5) = false := rfl
              obtain ⟨q, hq⟩ : ∃ q, putR E ⟨sa, ga⟩ = q := ⟨_, rfl⟩
              have hqq : (q == q) = true := by simp
              have HSA := Lib.hid (sz_put na l E ⟨sa, ga⟩ hdm)
              have HSB := Lib.hid (sz_put nb l E ⟨sa, ga⟩ hdm)
              rw [hq] at HSA HSB
              have hT1 := HT.out.quiet (Upto.refl NoS wc).drew
              have HSM : Hid (E.length < 1000000) := Lib.hid (by omega)
              clear hq
              go_upto_region 13 with (fail)
              go_region_held3 (fun w' => w'.cell? ⟨hb, 0, none⟩ = some (.int .i64 sa) ∧ w'.cell? ⟨hb, 1, none⟩ = some (.int .u32 (ga : Nat)))
                (first | exact ⟨q0, q1⟩ | exact ⟨hu2.keep q0 (fun h => h rfl), hu2.keep q1 (fun h => h rfl)⟩ | exact ⟨hu3.keep (hu2.keep q0 (fun h => h rfl)) (fun h => h rfl), hu3.keep (hu2.keep q1 (fun h => h rfl)) (fun h => h rfl)⟩)
                (first | (go_at_call 10; (with_reducible refine (put_a hT1 ⟨sa, ga⟩ _ HLI.out HOK.out HSM.out HSA.out.1 HSA.out.2).mono ?_); rintro e w2 ⟨rfl, Oe, hT2, hu2⟩) | (go_at_call 10; (with_reducible refine (put_b hT2 ⟨sa, ga⟩ _ HLI.out HOK.out HSM.out HSB.out.1 HSB.out.2).mono ?_); rintro e w3 ⟨rfl, Of, hT3, hu3⟩))
              go_wp2_with fail
              go_meet
              case rel => exact ⟨l, _, rfl, rfl, hl, Lib.hid (Nat.le_trans (putL_le _ _ _) (by omega)), Lib.hid ⟨_, _, _, hT3⟩⟩
            · subst hc
              have e3 : ((2 : Int) == 3) = false := rfl
              have e4 : ((2 : Int) == 4) = false := rfl
              have e5 : ((2 : Int) == 5) = false := rfl
              obtain ⟨q, hq⟩ : ∃ q, putR E ⟨sa, ga⟩ = q := ⟨_, rfl⟩
              have hqq : (q == q) = true := by simp
              have HSA := Lib.hid (sz_put na l E ⟨sa, ga⟩ hdm)
              have HSB := Lib.hid (sz_put nb l E ⟨sa, ga⟩ hdm)
              rw [hq] at HSA HSB
              have hT1 := HT.out.quiet (Upto.refl NoS wc).drew
              have HSM : Hid (E.length < 1000000) := Lib.hid (by omega)
              clear hq
              go_upto_region 13 with (fail)
              go_region_held3 (fun w' => w'.cell? ⟨hb, 0, none⟩ = some (.int .i64 sa) ∧ w'.cell? ⟨hb, 1, none⟩ = some (.int .u32 (ga : Nat)))
                (first | exact ⟨q0, q1⟩ | exact ⟨hu2.keep q0 (fun h => h rfl), hu2.keep q1 (fun h => h rfl)⟩ | exact ⟨hu3.keep (hu2.keep q0 (fun h => h rfl)) (fun h => h rfl), hu3.keep (hu2.keep q1 (fun h => h rfl)) (fun h => h rfl)⟩)
                (first | (go_at_call 10; (with_reducible refine (put_a hT1 ⟨sa, ga⟩ _ HLI.out HOK.out HSM.out HSA.out.1 HSA.out.2).mono ?_); rintro e w2 ⟨rfl, Oe, hT2, hu2⟩) | (go_at_call 10; (with_reducible refine (put_b hT2 ⟨sa, ga⟩ _ HLI.out HOK.out HSM.out HSB.out.1 HSB.out.2).mono ?_); rintro e w3 ⟨rfl, Of, hT3, hu3⟩))
              go_wp2_with fail
              go_meet
              case rel => exact ⟨l, _, rfl, rfl, hl, Lib.hid (Nat.le_trans (putL_le _ _ _) (by omega)), Lib.hid ⟨_, _, _, hT3⟩⟩
            · subst hc
              have e3 : ((3 : Int) == 3) = true := rfl
              have e4 : ((3 : Int) == 4) = false := rfl
              have e5 : ((3 : Int) == 5) = false := rfl
              obtain ⟨q, hq⟩ : ∃ q, cutR E ⟨sa, ga⟩ = q := ⟨_, rfl⟩
              have HQ := Lib.hid hq
              have HQA : Hid (((⟨na, l, E⟩ : Wh).find ⟨sa, ga⟩).isSome = q) := Lib.hid hq
              have HQB : Hid (((⟨nb, l, E⟩ : Wh).find ⟨sa, ga⟩).isSome = q) := Lib.hid hq
              have HCA : Hid ((⟨na, l, E⟩ : Wh).cut ⟨sa, ga⟩ = ⟨na, l, cutL E ⟨sa, ga⟩⟩) := Lib.hid rfl
              have HCB : Hid ((⟨nb, l, E⟩ : Wh).cut ⟨sa, ga⟩ = ⟨nb, l, cutL E ⟨sa, ga⟩⟩) := Lib.hid rfl
              have hqq : (q == q) = true := by simp
              have hT1 := HT.out.quiet (Upto.refl NoS wc).drew
              clear hq
              go_upto_region 15 with (fail)
              go_region_held3 (fun w' => w'.cell? ⟨hb, 0, none⟩ = some (.int .i64 sa) ∧ w'.cell? ⟨hb, 1, none⟩ = some (.int .u32 (ga : Nat)))
                (first | exact ⟨q0, q1⟩ | exact ⟨hu2.keep q0 (fun h => h rfl), hu2.keep q1 (fun h => h rfl)⟩ | exact ⟨hu3.keep (hu2.keep q0 (fun h => h rfl)) (fun h => h rfl), hu3.keep (hu2.keep q1 (fun h => h rfl)) (fun h => h rfl)⟩)
                (first | (go_at_call 15; (with_reducible refine (cut_a hT1 ⟨sa, ga⟩ HLI.out HOK.out HQA.out HCA.out).mono ?_); rintro e w2 ⟨rfl, Oe, hT2, hu2⟩) | (go_at_call 15; (with_reducible refine (cut_b hT2 ⟨sa, ga⟩ HLI.out HOK.out HQB.out HCB.out).mono ?_); rintro e w3 ⟨rfl, Of, hT3, hu3⟩))
              go_wp2_with fail
              go_meet
              case rel => exact ⟨l, _, rfl, rfl, hl, Lib.hid (Nat.le_trans (cutL_le _ _) (by omega)), Lib.hid ⟨_, _, _, hT3⟩⟩
            · subst hc
              have e3 : ((4 : Int) == 3) = false := rfl
              have e4 : ((4 : Int) == 4) = true := rfl
              have e5 : ((4 : Int) == 5) = false := rfl
              obtain ⟨q, hq⟩ : ∃ q, (turnR E d).length = q := ⟨_, rfl⟩
              have HQ := Lib.hid hq
              have HSA := Lib.hid (sz_turn na l E hld hdm)
              have HSB := Lib.hid (sz_turn nb l E hld hdm)
              have HSM : Hid ((turnR E d).length ≤ 1000000) := Lib.hid (by have := turnR_le E d; omega)
              clear hq
              go_wp2_with (first
                | (go_at_call 12; (with_reducible refine (turn_a HT.out _ HSA.out.1 HSA.out.2.1 HSA.out.2.2 HQ.out).mono ?_); rintro e w2 ⟨a2, c2, rfl, oa, hT2, hu2⟩)
                | (go_at_call 12; (with_reducible refine (turn_b hT2 _ HSB.out.1 HSB.out.2.1 HSB.out.2.2 HQ.out).mono ?_); rintro e w3 ⟨a3, c3, rfl, ob, hT3, hu3⟩; have oa3 := hu3.own oa (fun k hk h => h (.inr hk)))
                | (go_at_call 16; (with_reducible refine (same_to _ oa3 ob HSM.out HSM.out (q := true) (decide_eq_true rfl)).mono ?_); rintro e w4 ⟨rfl, n4, rfl⟩))
              go_meet
              case rel => exact ⟨d, _, rfl, rfl, hdm, Lib.hid (Nat.le_trans (turnT_le _ _) (by omega)), Lib.hid ⟨_, _, _, hT3.quiet ((Upto.refl NoS w3).drewN n4)⟩⟩
            · subst hc
              have e3 : ((5 : Int) == 3) = false := rfl
              have e4 : ((5 : Int) == 4) = false := rfl
              have e5 : ((5 : Int) == 5) = true := rfl
              obtain ⟨q, hq⟩ : ∃ q, (turnR E d).length = q := ⟨_, rfl⟩
              have HQ := Lib.hid hq
              have HSA := Lib.hid (sz_turn na l E hld hdm)
              have HSB := Lib.hid (sz_turn nb l E hld hdm)
              have HSM : Hid ((turnR E d).length ≤ 1000000) := Lib.hid (by have := turnR_le E d; omega)
              clear hq
              go_wp2_with (first
                | (go_at_call 12; (with_reducible refine (turn_a HT.out _ HSA.out.1 HSA.out.2.1 HSA.out.2.2 HQ.out).mono ?_); rintro e w2 ⟨a2, c2, rfl, oa, hT2, hu2⟩)
                | (go_at_call 12; (with_reducible refine (turn_b hT2 _ HSB.out.1 HSB.out.2.1 HSB.out.2.2 HQ.out).mono ?_); rintro e w3 ⟨a3, c3, rfl, ob, hT3, hu3⟩; have oa3 := hu3.own oa (fun k hk h => h (.inr hk)))
                | (go_at_call 16; (with_reducible refine (same_to _ oa3 ob HSM.out HSM.out (q := true) (decide_eq_true rfl)).mono ?_); rintro e w4 ⟨rfl, n4, rfl⟩))
              go_meet
              case rel => exact ⟨d, _, rfl, rfl, hdm, Lib.hid (Nat.le_trans (turnT_le _ _) (by omega)), Lib.hid ⟨_, _, _, hT3.quiet ((Upto.refl NoS w3).drewN n4)⟩⟩
          case rest =>
            obtain ⟨l', E', rfl, rfl, hl', HE', HT'⟩ := hcut
            obtain ⟨Oc, Od, Kd, hT'⟩ := HT'.out
            obtain ⟨m, hm0⟩ : ∃ m, nx E' = m := ⟨_, rfl⟩
            obtain ⟨q, hq0⟩ : ∃ q, okB E' = q := ⟨_, rfl⟩
            obtain ⟨c, hc0⟩ : ∃ c, E'.length = c := ⟨_, rfl⟩
            have b1 : ((m : Int) != (m : Int)) = false := by simp
            have b2 : (q != q) = false := by simp
            have b3 : ((c : Int) != (c : Int)) = false := by simp
            have HM := Lib.hid hm0
            have HQ := Lib.hid hq0
            have HC := Lib.hid hc0
            clear hm0 hq0 hc0 HT q0 q1 HE HT' hEk
            go_wp2_with (first
              | (go_at_call 11; (with_reducible refine (next_a hT' HM.out HQ.out).mono ?_); rintro e w2 ⟨rfl, Oe, hT2, hu2⟩)
              | (go_at_call 11; (with_reducible refine (next_b hT2 HM.out HQ.out).mono ?_); rintro e w3 ⟨rfl, Of, hT3, hu3⟩)
              | (go_at_call 13; (with_reducible refine (count_a hT3 HC.out).mono ?_); rintro e w4 ⟨rfl, rfl⟩)
              | (go_at_call 13; (with_reducible refine (count_b hT3 HC.out).mono ?_); rintro e w5 ⟨rfl, rfl⟩))
            go_roundw
            case rel => exact ⟨k + 1, l', E', by omega, rfl, by go_num, hl', HE', Lib.hid ⟨_, _, hT3.mono (fun _ h => h.elim)⟩⟩
            case measure => simp [intOf]; omega
      · obtain rfl : k = len := by omega
        go_wp2_with (go_at_call 9; refine (timed_any _).mono ?_; rintro e w3 ⟨rfl, hu⟩)
        go_ret
        exact ⟨rfl, hT.a.u.trans hu⟩
end Go.Proofs.Ytgoaokgoenihlaa
