/- WheelsPlay, walked. -/
import Derived.Test.YtgoaokgoenihlaaPlayP
import Derived.Test.YtgoaokgoenihlaaLastOp
namespace Go.Proofs.Ytgoaokgoenihlaa
open Go Go.RowKit Go.Deep Go.Maps

set_option maxRecDepth 100000 in
set_option maxHeartbeats 1000000 in
theorem play_walk (n0 : Int) (a0 : Option Addr) (len cap : Nat) (z : Nat → ActV) (w : World) (hm : len ≤ 9223372036854775807) (hz : ActsAt w a0 len z) :
    Calls Try.prog 6 #[.int .i64 n0, .slice a0 len cap] w (Told (.bool true) w) := by
  have HZ := Lib.hid hz
  clear hz
  by_cases hlen : 200 < len
  · go_enter Try.func6, Try.ntmps6
    go_wp2_with (go_at_call 9; refine (timed_any _).mono ?_; rintro e w3 ⟨rfl, hu⟩)
    go_ret
    exact ⟨rfl, hu⟩
  · by_cases hbad : n0 < 1 ∨ 64 < n0
    · have HB := Lib.hid hbad
      clear hbad
      go_enter Try.func6, Try.ntmps6
      go_wp2_with (first
        | (go_at_call 8; refine (New_err _ _ HB.out).mono ?_; rintro e w1 ⟨rfl, rfl⟩)
        | (go_at_call 17; refine (New_r_err _ _ HB.out).mono ?_; rintro e w1 ⟨rfl, rfl⟩)
        | (go_at_call 9; refine (timed_any _).mono ?_; rintro e w3 ⟨rfl, hu⟩))
      go_ret
      exact ⟨rfl, hu⟩
    · obtain ⟨n, rfl⟩ := Int.eq_ofNat_of_zero_le (by omega : 0 ≤ n0)
      have hn1 : 1 ≤ n := by omega
      have hn2 : n ≤ 64 := by omega
      have hi1 : (1 : Int) ≤ (n : Nat) := by omega
      have hi2 : ((n : Nat) : Int) ≤ 64 := by omega
      clear hbad
      go_enter Try.func6, Try.ntmps6
      go_wp2_with (first
        | (go_at_call 8; (with_reducible refine (W_new w _ n hn1 hn2 (Upto.refl NoS w) (fun _ => False) (fun _ h => h.elim)).mono ?_); rintro e w1 ⟨xa, Oa0, rfl, hWa, hu1⟩)
        | (go_at_call 17; (with_reducible refine (New_r _ (n : Nat) hi1 hi2).mono ?_); rintro e w2 ⟨rfl, hRb, hu2⟩))
      have HD := Lib.hid (Duo.start hWa hRb hu2 (Nat.le_refl _))
      clear hWa hRb hu1 hu2 hi1 hi2
      generalize w1.heap.size = xb at HD ⊢
      go_loopw [9] (fun i wr => ∃ (k l : Nat) (E : List Tm), k ≤ len ∧ i = .int .i64 k ∧ l ≤ 1099511627776 ∧ Hid (E.length ≤ k) ∧ Hid (∃ Oa Ob, Duo w wr xa xb Oa Ob n l E (fun _ => False))) (fun i _ => len - (intOf i).toNat)
      case atStart => exact ⟨0, 0, [], by omega, rfl, by omega, Lib.hid (Nat.le_refl _), Lib.hid ⟨_, _, HD.out⟩⟩
      case round =>
        clear HD
        obtain ⟨k, l, E, hk, rfl, hl, HE, HD⟩ := hrel
        obtain ⟨Oa, Ob, hD⟩ := HD.out
        clear HD
        by_cases hlt : k < len
        · obtain ⟨hzk, bo, off, ha, hbo, hA⟩ := HZ.out k hlt
          have hAr := hA.upto hD.a.u
          obtain ⟨g0, g1, g2, g3, g4, g5⟩ := hAr
          subst ha
          have z0 : (0 : Int) ≤ (k : Int) := by omega
          have z1 : (k : Int) < (len : Int) := by omega
          clear hA
          have n0 := new_1 wr (acs (z k)).toArray 43 0 (.int .u8 ((z k).kind : Nat)) rfl
          have n1 := new_1 wr (acs (z k)).toArray 43 1 (.int .u8 ((z k).h : Nat)) rfl
          have n2 := new_1 wr (acs (z k)).toArray 43 2 (.int .u16 ((z k).by_ : Nat)) rfl
          have n3 := new_1 wr (acs (z k)).toArray 43 3 (.int .i64 (z k).raw.s) rfl
          have n4 := new_1 wr (acs (z k)).toArray 43 4 (.int .u32 ((z k).raw.g : Nat)) rfl
          have n5 := new_1 wr (acs (z k)).toArray 43 5 (.int .i64 (z k).n) rfl
          have hD1 := hD.ah.quiet ((Upto.refl NoS wr).alloc (.cells (acs (z k)).toArray 43))
          have hby := hzk.by_
          have hkn := hzk.kind
          have hN1 := hzk.n1
          have hN2 := hzk.n2
          have HRAW := Lib.hid hzk.raw
          have HHN := Lib.hid hzk.h
          have hne : wr.heap.size < (wr.alloc (.cells (acs (z k)).toArray 43)).heap.size := by simp
          have hws := hD.a.u.size
          obtain ⟨d, hd⟩ : ∃ d, d = min (l + (z k).by_) 1099511627776 := ⟨_, rfl⟩
          have hwd : IntKind.i64.wrap ((l : Int) + IntKind.i64.wrap ((z k).by_ : Int)) = ((l + (z k).by_ : Nat) : Int) := by
            rw [IntWalk.i64_in ((z k).by_ : Int) (by omega), IntWalk.i64_in _ (by omega)]
            simp
          have hmind : min ((l + (z k).by_ : Nat) : Int) 1099511627776 = (d : Nat) := by rw [hd]; omega
          have hdm : d ≤ 1099511627776 := by rw [hd]; exact Nat.min_le_right _ _
          clear hD hzk hd
          generalize l + (z k).by_ = ls at hwd hmind
          go_upto_region 13 with (fail)
          generalize wr.alloc (.cells #[.int .u8 ((z k).kind : Nat), .int .u8 ((z k).h : Nat), .int .u16 ((z k).by_ : Nat), .int .i64 (z k).raw.s, .int .u32 ((z k).raw.g : Nat), .int .i64 (z k).n] 43) = W at n0 n1 n2 n3 n4 n5 hD1 hne ⊢
          generalize wr.heap.size = bx at n0 n1 n2 n3 n4 n5 hne hws ⊢
          have hxb : xb < W.heap.size := by obtain ⟨p, c, h1, _⟩ := hD1.b.at_; exact h1.lt
          have y0 : W.cell? ⟨xb, 0, none⟩ = some (.int .i64 (l : Nat)) := by obtain ⟨p, c, h1, _⟩ := hD1.b.at_; exact h1.c0
          have hne2 : ¬ W.heap.size = xb := by omega
          have hws2 : w.heap.size ≤ W.heap.size := by omega
          replace hne : ¬ W.heap.size = bx := by omega
          clear g0 g1 g2 g3 g4 g5
          go_cut [11, 12] (fun p v wc => ∃ hb, p = .pointer (some ⟨hb, 0, none⟩) ∧ v = .int .i64 (d : Nat) ∧ wc.rowIs hb 31 2 (hRow (hN (z k).h)) ∧ (wc.cell? ⟨bx, 0, none⟩ = some (.int .u8 ((z k).kind : Nat)) ∧ wc.cell? ⟨bx, 3, none⟩ = some (.int .i64 (z k).raw.s) ∧ wc.cell? ⟨bx, 4, none⟩ = some (.int .u32 ((z k).raw.g : Nat)) ∧ wc.cell? ⟨bx, 5, none⟩ = some (.int .i64 (z k).n)) ∧ ¬ hb = bx ∧ w.heap.size ≤ hb ∧ Ahead w wc xa xb Oa Ob ⟨n, l, E⟩ ⟨l, srt E⟩ (fun i => i = hb))
          case first =>
            refine E_start (S := fun w' => w'.cell? ⟨bx, 1, none⟩ = some (.int .u8 ((z k).h : Nat)) ∧ w'.cell? ⟨bx, 2, none⟩ = some (.int .u16 ((z k).by_ : Nat)) ∧ w'.cell? ⟨xb, 0, none⟩ = some (.int .i64 (l : Nat))) 14 (by kernel_rfl) ⟨n1, n2, y0⟩ (fun hHeld => ?_)
            refine E_take (i := 0) (v := ?_) rfl (by kernel_rfl) (by kernel_rfl) (by kernel_rfl) (by kernel_rfl) (fun _ _ _ h => h) (Or.inl ⟨by rfl, ?_⟩) (by assumption) ?_
            rotate_left
            · ((intro w hSw; (try dsimp only at hSw); go_simp); (try with_reducible rfl))
            try simp only [Act.put, List.getElem_toArray, List.getElem_cons_zero, List.getElem_cons_succ, List.setIfInBounds_toArray, List.set_cons_zero, List.set_cons_succ]
            refine E_take (i := 1) (v := ?_) rfl (by kernel_rfl) (by kernel_rfl) (by kernel_rfl) (by kernel_rfl) (fun _ _ _ h => h) (Or.inl ⟨by rfl, ?_⟩) (by assumption) ?_
            rotate_left
            · ((intro w hSw; (try dsimp only at hSw); go_simp); (try with_reducible rfl))
            try simp only [Act.put, List.getElem_toArray, List.getElem_cons_zero, List.getElem_cons_succ, List.setIfInBounds_toArray, List.set_cons_zero, List.set_cons_succ]
            refine E_take (i := 3) (v := ?_) rfl (by kernel_rfl) (by kernel_rfl) (by kernel_rfl) (by kernel_rfl) (fun _ _ _ h => h) (Or.inl ⟨by rfl, ?_⟩) (by assumption) ?_
            rotate_left
            · ((intro w hSw; (try dsimp only at hSw); go_simp); (try with_reducible rfl))
            try simp only [Act.put, List.getElem_toArray, List.getElem_cons_zero, List.getElem_cons_succ, List.setIfInBounds_toArray, List.set_cons_zero, List.set_cons_succ]
            refine E_take (i := 4) (v := ?_) rfl (by kernel_rfl) (by kernel_rfl) (by kernel_rfl) (by kernel_rfl) (fun _ _ _ h => h) (Or.inl ⟨by rfl, ?_⟩) (by assumption) ?_
            rotate_left
            · ((intro w hSw; (try dsimp only at hSw); go_simp); (try with_reducible rfl))
            try simp only [Act.put, List.getElem_toArray, List.getElem_cons_zero, List.getElem_cons_succ, List.setIfInBounds_toArray, List.set_cons_zero, List.set_cons_succ]
            refine E_take (i := 5) (v := ?_) rfl (by kernel_rfl) (by kernel_rfl) (by kernel_rfl) (by kernel_rfl) (fun _ _ _ h => h) (Or.inl ⟨by rfl, ?_⟩) (by assumption) ?_
            rotate_left
            · ((intro w hSw; (try dsimp only at hSw); go_simp); (try with_reducible rfl))
            try simp only [Act.put, List.getElem_toArray, List.getElem_cons_zero, List.getElem_cons_succ, List.setIfInBounds_toArray, List.set_cons_zero, List.set_cons_succ]
            refine E_take (i := 6) (v := ?_) rfl (by kernel_rfl) (by kernel_rfl) (by kernel_rfl) (by kernel_rfl) (fun _ _ _ h => h) (Or.inl ⟨by rfl, ?_⟩) (by assumption) ?_
            rotate_left
            · ((intro w hSw; (try dsimp only at hSw); go_simp); (try with_reducible rfl))
            try simp only [Act.put, List.getElem_toArray, List.getElem_cons_zero, List.getElem_cons_succ, List.setIfInBounds_toArray, List.set_cons_zero, List.set_cons_succ]
            refine E_take (i := 7) (v := ?_) rfl (by kernel_rfl) (by kernel_rfl) (by kernel_rfl) (by kernel_rfl) (fun _ _ _ h => h) (Or.inl ⟨by rfl, ?_⟩) (by assumption) ?_
            rotate_left
            · ((intro w hSw; (try dsimp only at hSw); go_simp); (try with_reducible rfl))
            try simp only [Act.put, List.getElem_toArray, List.getElem_cons_zero, List.getElem_cons_succ, List.setIfInBounds_toArray, List.set_cons_zero, List.set_cons_succ]
            refine E_take (i := 8) (v := ?_) rfl (by kernel_rfl) (by kernel_rfl) (by kernel_rfl) (by kernel_rfl) (fun _ _ _ h => h) (Or.inl ⟨by rfl, ?_⟩) (by assumption) ?_
            rotate_left
            · ((intro w hSw; (try dsimp only at hSw); go_simp); (try with_reducible rfl))
            try simp only [Act.put, List.getElem_toArray, List.getElem_cons_zero, List.getElem_cons_succ, List.setIfInBounds_toArray, List.set_cons_zero, List.set_cons_succ]
            refine E_take (i := 9) (v := ?_) rfl (by kernel_rfl) (by kernel_rfl) (by kernel_rfl) (by kernel_rfl) (fun _ _ _ h => h) (Or.inl ⟨by rfl, ?_⟩) (by assumption) ?_
            rotate_left
            · ((intro w hSw; (try dsimp only at hSw); go_simp); (try with_reducible rfl))
            try simp only [Act.put, List.getElem_toArray, List.getElem_cons_zero, List.getElem_cons_succ, List.setIfInBounds_toArray, List.set_cons_zero, List.set_cons_succ]
            refine E_take (i := 10) (v := ?_) rfl (by kernel_rfl) (by kernel_rfl) (by kernel_rfl) (by kernel_rfl) (fun _ _ _ h => h) (Or.inl ⟨by rfl, ?_⟩) (by assumption) ?_
            rotate_left
            · ((intro w hSw; (try dsimp only at hSw); go_simp); (try with_reducible rfl))
            try simp only [Act.put, List.getElem_toArray, List.getElem_cons_zero, List.getElem_cons_succ, List.setIfInBounds_toArray, List.set_cons_zero, List.set_cons_succ]
            refine E_take (i := 11) (v := .int .i64 (d : Nat)) rfl (by kernel_rfl) (by kernel_rfl) (by kernel_rfl) (by kernel_rfl) (fun _ _ _ h => h) (Or.inl ⟨by rfl, ?_⟩) (by assumption) ?_
            · (intro w hSw; (try dsimp only at hSw); go_simp; try (with_reducible rfl))
            try simp only [Act.put, List.getElem_toArray, List.getElem_cons_zero, List.getElem_cons_succ, List.setIfInBounds_toArray, List.set_cons_zero, List.set_cons_succ]
            refine E_two (i := 2) (j := 12) (by kernel_rfl) rfl rfl (fun K hK => ?_) (fun K hK => ?_)
            · go_simp
              go_at_call 14
              (with_reducible refine (handle_any _ (z k).h HHN.out).mono ?_)
              rintro e w9 ⟨rfl, hu9⟩
              refine hK.out _ _ (.inr ⟨hu9.keep n1 id, hu9.keep n2 id, hu9.keep y0 id⟩) (fun hHeld => ?_)
              clear hK K
              try simp only [Act.put, List.getElem_toArray, List.getElem_cons_zero, List.getElem_cons_succ, List.setIfInBounds_toArray, List.set_cons_zero, List.set_cons_succ]
              refine E_one (i := 12) (by kernel_rfl) rfl (fun K hK => ?_)
              go_simp
              refine hK.out _ _ (.inr ⟨keep_alloc (hu9.keep n1 id) _, keep_alloc (hu9.keep n2 id) _, keep_alloc (hu9.keep y0 id) _⟩) (fun hHeld => ?_)
              clear hK K
              try simp only [Act.put, List.getElem_toArray, List.getElem_cons_zero, List.getElem_cons_succ, List.setIfInBounds_toArray, List.set_cons_zero, List.set_cons_succ]
              refine E_one (i := 13) (by kernel_rfl) rfl (fun K hK => ?_)
              go_simp
              refine hK.out _ _ (.inr ⟨keep_alloc (hu9.keep n1 id) _, keep_alloc (hu9.keep n2 id) _, keep_alloc (hu9.keep y0 id) _⟩) (fun hHeld => ?_)
              clear hK K
              try simp only [Act.put, List.getElem_toArray, List.getElem_cons_zero, List.getElem_cons_succ, List.setIfInBounds_toArray, List.set_cons_zero, List.set_cons_succ]
              refine E_one (i := 14) (by kernel_rfl) rfl (fun K hK => ?_)
              go_simp
              refine hK.out _ _ (.inl rfl) (fun hHeld => ?_)
              clear hK K
              try simp only [Act.put, List.getElem_toArray, List.getElem_cons_zero, List.getElem_cons_succ, List.setIfInBounds_toArray, List.set_cons_zero, List.set_cons_succ]
              refine E_done (by kernel_rfl) ?_ _
              go_wp2_with fail
              go_meet
              case rel =>
                have hu : Upto NoS W (w9.alloc (.cells #[.int .i64 (hN (z k).h).s, .int .u32 ((hN (z k).h).g : Nat)] 31)) := ((Upto.refl NoS W).drew.trans hu9).alloc _
                have hs9 : W.heap.size ≤ w9.heap.size := hu9.size
                exact ⟨_, rfl, rfl, hn_row w9 _, ⟨hu.keep n0 id, hu.keep n3 id, hu.keep n4 id, hu.keep n5 id⟩, fun e => by have := World.block_lt_of_cell? W _ n0; have h' : bx < W.heap.size := this; omega, by omega, hD1.add hu (fun i (e : i = _) => .inr ⟨by rw [e]; exact hs9, by rw [e]; simp⟩)⟩
            · go_simp
              refine hK.out _ _ (.inr ⟨keep_alloc n1 _, keep_alloc n2 _, keep_alloc y0 _⟩) (fun hHeld => ?_)
              clear hK K
              try simp only [Act.put, List.getElem_toArray, List.getElem_cons_zero, List.getElem_cons_succ, List.setIfInBounds_toArray, List.set_cons_zero, List.set_cons_succ]
              refine E_one (i := 2) (by kernel_rfl) rfl (fun K hK => ?_)
              go_simp
              go_at_call 14
              (with_reducible refine (handle_any _ (z k).h HHN.out).mono ?_)
              rintro e w9 ⟨rfl, hu9⟩
              have hR9 := hu9.row (zero_row W.drew) id
              have k0 : w9.cell? ⟨W.heap.size, 0, none⟩ = some (.int .i64 0) := hR9.cell (i := 0) (by omega)
              have k1 : w9.cell? ⟨W.heap.size, 1, none⟩ = some (.int .u32 0) := hR9.cell (i := 1) (by omega)
              have f0 : w9.frozen? ⟨W.heap.size, 0, none⟩ = false := hR9.frozen 0
              have f1 : w9.frozen? ⟨W.heap.size, 1, none⟩ = false := hR9.frozen 1
              refine hK.out _ _ (.inr ⟨hu9.keep (keep_alloc n1 _) id, hu9.keep (keep_alloc n2 _) id, hu9.keep (keep_alloc y0 _) id⟩) (fun hHeld => ?_)
              clear hK K
              try simp only [Act.put, List.getElem_toArray, List.getElem_cons_zero, List.getElem_cons_succ, List.setIfInBounds_toArray, List.set_cons_zero, List.set_cons_succ]
              refine E_one (i := 13) (by kernel_rfl) rfl (fun K hK => ?_)
              go_simp
              refine hK.out _ _ (.inr ⟨far2 hne (hu9.keep (keep_alloc n1 _) id), far2 hne (hu9.keep (keep_alloc n2 _) id), far2 hne2 (hu9.keep (keep_alloc y0 _) id)⟩) (fun hHeld => ?_)
              clear hK K
              try simp only [Act.put, List.getElem_toArray, List.getElem_cons_zero, List.getElem_cons_succ, List.setIfInBounds_toArray, List.set_cons_zero, List.set_cons_succ]
              refine E_one (i := 14) (by kernel_rfl) rfl (fun K hK => ?_)
              go_simp
              refine hK.out _ _ (.inl rfl) (fun hHeld => ?_)
              clear hK K
              try simp only [Act.put, List.getElem_toArray, List.getElem_cons_zero, List.getElem_cons_succ, List.setIfInBounds_toArray, List.set_cons_zero, List.set_cons_succ]
              refine E_done (by kernel_rfl) ?_ _
              go_wp2_with fail
              go_meet
              case rel =>
                have hu : Upto NoS W ((w9.setCell ⟨W.heap.size, 0, none⟩ (.int .i64 (hN (z k).h).s)).setCell ⟨W.heap.size, 1, none⟩ (.int .u32 ((hN (z k).h).g : Nat))) := ((((Upto.refl NoS W).drew.alloc _).trans hu9).setNew (Nat.le_refl _) _).setNew (Nat.le_refl _) _
                have hsz : W.heap.size + 1 ≤ w9.heap.size := by have := hu9.size; simpa using this
                exact ⟨_, rfl, rfl, set_row hR9 _, ⟨hu.keep n0 id, hu.keep n3 id, hu.keep n4 id, hu.keep n5 id⟩, hne, hws2, hD1.add hu (fun i (e : i = _) => .inr ⟨by rw [e]; exact Nat.le_refl _, by rw [e]; simp; omega⟩)⟩
          case rest =>
            obtain ⟨hb, rfl, rfl, hR, ⟨k0, k3, k4, k5⟩, hbx, hwb, hD⟩ := hcut
            obtain ⟨r, hr⟩ : ∃ r : Nat, (((z k).kind : Nat) : Int) % 9 = r := ⟨(z k).kind % 9, by simp⟩
            have hr9 : r < 9 := by omega
            have hokN := hN_ok (z k).h
            clear n0 n1 n2 n3 n4 n5 hD1 hwd hmind y0 hne hne2 hws2 hxb
            go_upto_if 78 with (fail)
            go_cut [12] (fun v wd => ∃ (nv : Int) (a : Hn), v = .int .i64 nv ∧ (-9223372036854775808 ≤ nv ∧ nv ≤ 9223372036854775807) ∧ a.Ok ∧ wd.rowIs hb 31 2 (hRow a) ∧ wd.cell? ⟨bx, 0, none⟩ = some (.int .u8 ((z k).kind : Nat)) ∧ Ahead w wd xa xb Oa Ob ⟨n, l, E⟩ ⟨l, srt E⟩ (fun i => i = hb))
            case first =>
              by_cases h5 : 5 < r
              · go_upto_region 15 with (fail)
                have q0 : wc.drew.cell? ⟨hb, 0, none⟩ = some (.int .i64 (hN (z k).h).s) := hR.cell (i := 0) (by omega)
                have q1 : wc.drew.cell? ⟨hb, 1, none⟩ = some (.int .u32 ((hN (z k).h).g : Nat)) := hR.cell (i := 1) (by omega)
                have f0 : wc.drew.frozen? ⟨hb, 0, none⟩ = false := hR.frozen 0
                have f1 : wc.drew.frozen? ⟨hb, 1, none⟩ = false := hR.frozen 1
                have j3 : wc.drew.cell? ⟨bx, 3, none⟩ = some (.int .i64 (z k).raw.s) := k3
                have j4 : wc.drew.cell? ⟨bx, 4, none⟩ = some (.int .u32 ((z k).raw.g : Nat)) := k4
                have j5 : wc.drew.cell? ⟨bx, 5, none⟩ = some (.int .i64 (z k).n) := k5
                have hRV : wc.drew.rowIs hb 31 2 (hRow (hN (z k).h)) := hR
                have hUV : Upto (fun i => i = hb) wc wc.drew := (Upto.refl (fun i => i = hb) wc).drew
                have j0 : wc.drew.cell? ⟨bx, 0, none⟩ = some (.int .u8 ((z k).kind : Nat)) := k0
                refine E_start (S := fun w' => w'.cell? ⟨bx, 3, none⟩ = some (.int .i64 (z k).raw.s) ∧ w'.cell? ⟨bx, 4, none⟩ = some (.int .u32 ((z k).raw.g : Nat)) ∧ w'.cell? ⟨bx, 5, none⟩ = some (.int .i64 (z k).n)) 5 (by kernel_rfl) ⟨j3, j4, j5⟩ (fun hHeld => ?_)
                generalize wc.drew = V at q0 q1 f0 f1 j0 j3 j4 j5 hRV hUV hHeld ⊢
                refine E_take (i := 0) (v := ?_) rfl (by kernel_rfl) (by kernel_rfl) (by kernel_rfl) (by kernel_rfl) (fun _ _ _ h => h) (Or.inl ⟨by rfl, ?_⟩) (by assumption) ?_
                rotate_left
                · ((intro w hSw; (try dsimp only at hSw); go_simp); (try with_reducible rfl))
                try simp only [Act.put, List.getElem_toArray, List.getElem_cons_zero, List.getElem_cons_succ, List.setIfInBounds_toArray, List.set_cons_zero, List.set_cons_succ]
                refine E_take (i := 1) (v := ?_) rfl (by kernel_rfl) (by kernel_rfl) (by kernel_rfl) (by kernel_rfl) (fun _ _ _ h => h) (Or.inl ⟨by rfl, ?_⟩) (by assumption) ?_
                rotate_left
                · ((intro w hSw; (try dsimp only at hSw); go_simp); (try with_reducible rfl))
                try simp only [Act.put, List.getElem_toArray, List.getElem_cons_zero, List.getElem_cons_succ, List.setIfInBounds_toArray, List.set_cons_zero, List.set_cons_succ]
                refine E_take (i := 2) (v := ?_) rfl (by kernel_rfl) (by kernel_rfl) (by kernel_rfl) (by kernel_rfl) (fun _ _ _ h => h) (Or.inl ⟨by rfl, ?_⟩) (by assumption) ?_
                rotate_left
                · ((intro w hSw; (try dsimp only at hSw); go_simp); (try with_reducible rfl))
                try simp only [Act.put, List.getElem_toArray, List.getElem_cons_zero, List.getElem_cons_succ, List.setIfInBounds_toArray, List.set_cons_zero, List.set_cons_succ]
                refine E_take (i := 3) (v := ?_) rfl (by kernel_rfl) (by kernel_rfl) (by kernel_rfl) (by kernel_rfl) (fun _ _ _ h => h) (Or.inl ⟨by rfl, ?_⟩) (by assumption) ?_
                rotate_left
                · ((intro w hSw; (try dsimp only at hSw); go_simp); (try with_reducible rfl))
                try simp only [Act.put, List.getElem_toArray, List.getElem_cons_zero, List.getElem_cons_succ, List.setIfInBounds_toArray, List.set_cons_zero, List.set_cons_succ]
                refine E_one (i := 4) (by kernel_rfl) rfl (fun K hK => ?_)
                go_simp
                refine hK.out _ _ (.inr ⟨far2 hbx j3, far2 hbx j4, far2 hbx j5⟩) (fun hHeld => ?_)
                clear hK K
                try simp only [Act.put, List.getElem_toArray, List.getElem_cons_zero, List.getElem_cons_succ, List.setIfInBounds_toArray, List.set_cons_zero, List.set_cons_succ]
                refine E_one (i := 5) (by kernel_rfl) rfl (fun K hK => ?_)
                go_simp
                refine hK.out _ _ (.inl rfl) (fun hHeld => ?_)
                clear hK K
                try simp only [Act.put, List.getElem_toArray, List.getElem_cons_zero, List.getElem_cons_succ, List.setIfInBounds_toArray, List.set_cons_zero, List.set_cons_succ]
                refine E_done (by kernel_rfl) ?_ _
                go_wp2_with fail
                go_meet
                case rel =>
                  have hu : Upto (fun i => i = hb) wc ((V.setCell ⟨hb, 0, none⟩ (.int .i64 (z k).raw.s)).setCell ⟨hb, 1, none⟩ (.int .u32 ((z k).raw.g : Nat))) := (hUV.setB rfl _).setB rfl _
                  exact ⟨_, (z k).raw, rfl, ⟨hN1, hN2⟩, HRAW.out, set_row hRV _, far2 hbx j0, hD.writeK hu rfl hwb⟩
              · go_wp2_with fail
                go_meet
                case rel => exact ⟨_, _, rfl, ⟨by omega, by omega⟩, hokN, hR, k0, hD⟩
            case rest =>
              obtain ⟨nv, a, rfl, ⟨hv1, hv2⟩, hok, hR, hk0, hD⟩ := hcut
              have HD := Lib.hid hD
              have HOK := Lib.hid hok
              have q0 : wc.cell? ⟨hb, 0, none⟩ = some (.int .i64 a.s) := hR.cell (i := 0) (by omega)
              have q1 : wc.cell? ⟨hb, 1, none⟩ = some (.int .u32 (a.g : Nat)) := hR.cell (i := 1) (by omega)
              obtain ⟨sa, ga⟩ := a
              clear hD k0 k3 k4 k5 hR hokN hok hN1 hN2
              go_upto_block 2 with (fail)
              rw [hr]
              clear hr hk0
              have hEk := HE.out
              have HLI : Hid (Lies ⟨sa, ga⟩ sa (ga : Nat)) := Lib.hid ⟨rfl, rfl⟩
              go_cut [13] (fun v we => v = .bool true ∧ ∃ (l' : Nat) (E' : List Tm), l' ≤ 1099511627776 ∧ Hid (E'.length ≤ k + 1) ∧ we.cell? ⟨hb, 0, none⟩ = some (.int .i64 sa) ∧ we.cell? ⟨hb, 1, none⟩ = some (.int .u32 (ga : Nat)) ∧ Hid (∃ Oa Ob, Ahead w we xa xb Oa Ob ⟨n, l', E'⟩ ⟨l', srt E'⟩ (fun i => i = hb)))
              case first =>
                rcases (show r = 0 ∨ r = 1 ∨ r = 2 ∨ r = 3 ∨ r = 4 ∨ r = 5 ∨ r = 6 ∨ r = 7 ∨ r = 8 by omega) with hc | hc | hc | hc | hc | hc | hc | hc | hc
                · subst hc
                  have e3 : ((0 : Int) == 3) = false := rfl
                  have e7 : ((0 : Int) == 7) = false := rfl
                  have e4 : ((0 : Int) == 4) = false := rfl
                  have e5 : ((0 : Int) == 5) = false := rfl
                  have e8 : ((0 : Int) == 8) = false := rfl
                  obtain ⟨q, hq⟩ : ∃ q, (⟨n, l, E⟩ : Wh).putE ⟨sa, ga⟩ nv = q := ⟨_, rfl⟩
                  obtain ⟨p1, E', p2, p3, p4⟩ := p_put n l E ⟨sa, ga⟩ nv
                  rw [hq] at p1
                  have hqq : (q == q) = true := by simp
                  have HQ := Lib.hid hq
                  have HP := Lib.hid (And.intro p1 (And.intro p2 p3))
                  have HP4 := Lib.hid p4
                  have hD1 := HD.out.quiet (Upto.refl NoS wc).drew
                  have HSM : Hid (E.length < 1000000) := Lib.hid (by omega)
                  have HSN : Hid ((srt E).length < 1000000) := Lib.hid (by rw [srt_length]; omega)
                  clear hq p1 p2 p3 p4
                  go_upto_region 18 with (fail)
                  go_region_held3 (fun w' => w'.cell? ⟨hb, 0, none⟩ = some (.int .i64 sa) ∧ w'.cell? ⟨hb, 1, none⟩ = some (.int .u32 (ga : Nat)))
                    (first | exact ⟨q0, q1⟩ | exact ⟨hu2.keep q0 (fun h => h rfl), hu2.keep q1 (fun h => h rfl)⟩ | exact ⟨hu3.keep (hu2.keep q0 (fun h => h rfl)) (fun h => h rfl), hu3.keep (hu2.keep q1 (fun h => h rfl)) (fun h => h rfl)⟩)
                    (first | (go_at_call 10; (with_reducible refine (dput_a hD1 ⟨sa, ga⟩ _ HLI.out HOK.out HSM.out HQ.out HP.out.2.1).mono ?_); rintro e w2 ⟨rfl, Oe, hD2, hu2⟩) | (go_at_call 20; (with_reducible refine (dput_b hD2 ⟨sa, ga⟩ _ HLI.out HOK.out HSN.out HP.out.1 HP.out.2.2).mono ?_); rintro e w3 ⟨rfl, Of, hD3, hu3⟩))
                  go_wp2_with fail
                  go_meet
                  case rel => exact ⟨rfl, l, E', hl, Lib.hid (Nat.le_trans HP4.out (by omega)), hu3.keep (hu2.keep q0 (fun h => h rfl)) (fun h => h rfl), hu3.keep (hu2.keep q1 (fun h => h rfl)) (fun h => h rfl), Lib.hid ⟨_, _, hD3⟩⟩
                · subst hc
                  have e3 : ((1 : Int) == 3) = false := rfl
                  have e7 : ((1 : Int) == 7) = false := rfl
                  have e4 : ((1 : Int) == 4) = false := rfl
                  have e5 : ((1 : Int) == 5) = false := rfl
                  have e8 : ((1 : Int) == 8) = false := rfl
                  obtain ⟨q, hq⟩ : ∃ q, (⟨n, l, E⟩ : Wh).putE ⟨sa, ga⟩ nv = q := ⟨_, rfl⟩
                  obtain ⟨p1, E', p2, p3, p4⟩ := p_put n l E ⟨sa, ga⟩ nv
                  rw [hq] at p1
                  have hqq : (q == q) = true := by simp
                  have HQ := Lib.hid hq
                  have HP := Lib.hid (And.intro p1 (And.intro p2 p3))
                  have HP4 := Lib.hid p4
                  have hD1 := HD.out.quiet (Upto.refl NoS wc).drew
                  have HSM : Hid (E.length < 1000000) := Lib.hid (by omega)
                  have HSN : Hid ((srt E).length < 1000000) := Lib.hid (by rw [srt_length]; omega)
                  clear hq p1 p2 p3 p4
                  go_upto_region 18 with (fail)
                  go_region_held3 (fun w' => w'.cell? ⟨hb, 0, none⟩ = some (.int .i64 sa) ∧ w'.cell? ⟨hb, 1, none⟩ = some (.int .u32 (ga : Nat)))
                    (first | exact ⟨q0, q1⟩ | exact ⟨hu2.keep q0 (fun h => h rfl), hu2.keep q1 (fun h => h rfl)⟩ | exact ⟨hu3.keep (hu2.keep q0 (fun h => h rfl)) (fun h => h rfl), hu3.keep (hu2.keep q1 (fun h => h rfl)) (fun h => h rfl)⟩)
                    (first | (go_at_call 10; (with_reducible refine (dput_a hD1 ⟨sa, ga⟩ _ HLI.out HOK.out HSM.out HQ.out HP.out.2.1).mono ?_); rintro e w2 ⟨rfl, Oe, hD2, hu2⟩) | (go_at_call 20; (with_reducible refine (dput_b hD2 ⟨sa, ga⟩ _ HLI.out HOK.out HSN.out HP.out.1 HP.out.2.2).mono ?_); rintro e w3 ⟨rfl, Of, hD3, hu3⟩))
                  go_wp2_with fail
                  go_meet
                  case rel => exact ⟨rfl, l, E', hl, Lib.hid (Nat.le_trans HP4.out (by omega)), hu3.keep (hu2.keep q0 (fun h => h rfl)) (fun h => h rfl), hu3.keep (hu2.keep q1 (fun h => h rfl)) (fun h => h rfl), Lib.hid ⟨_, _, hD3⟩⟩
                · subst hc
                  have e3 : ((2 : Int) == 3) = false := rfl
                  have e7 : ((2 : Int) == 7) = false := rfl
                  have e4 : ((2 : Int) == 4) = false := rfl
                  have e5 : ((2 : Int) == 5) = false := rfl
                  have e8 : ((2 : Int) == 8) = false := rfl
                  obtain ⟨q, hq⟩ : ∃ q, (⟨n, l, E⟩ : Wh).putE ⟨sa, ga⟩ nv = q := ⟨_, rfl⟩
                  obtain ⟨p1, E', p2, p3, p4⟩ := p_put n l E ⟨sa, ga⟩ nv
                  rw [hq] at p1
                  have hqq : (q == q) = true := by simp
                  have HQ := Lib.hid hq
                  have HP := Lib.hid (And.intro p1 (And.intro p2 p3))
                  have HP4 := Lib.hid p4
                  have hD1 := HD.out.quiet (Upto.refl NoS wc).drew
                  have HSM : Hid (E.length < 1000000) := Lib.hid (by omega)
                  have HSN : Hid ((srt E).length < 1000000) := Lib.hid (by rw [srt_length]; omega)
                  clear hq p1 p2 p3 p4
                  go_upto_region 18 with (fail)
                  go_region_held3 (fun w' => w'.cell? ⟨hb, 0, none⟩ = some (.int .i64 sa) ∧ w'.cell? ⟨hb, 1, none⟩ = some (.int .u32 (ga : Nat)))
                    (first | exact ⟨q0, q1⟩ | exact ⟨hu2.keep q0 (fun h => h rfl), hu2.keep q1 (fun h => h rfl)⟩ | exact ⟨hu3.keep (hu2.keep q0 (fun h => h rfl)) (fun h => h rfl), hu3.keep (hu2.keep q1 (fun h => h rfl)) (fun h => h rfl)⟩)
                    (first | (go_at_call 10; (with_reducible refine (dput_a hD1 ⟨sa, ga⟩ _ HLI.out HOK.out HSM.out HQ.out HP.out.2.1).mono ?_); rintro e w2 ⟨rfl, Oe, hD2, hu2⟩) | (go_at_call 20; (with_reducible refine (dput_b hD2 ⟨sa, ga⟩ _ HLI.out HOK.out HSN.out HP.out.1 HP.out.2.2).mono ?_); rintro e w3 ⟨rfl, Of, hD3, hu3⟩))
                  go_wp2_with fail
                  go_meet
                  case rel => exact ⟨rfl, l, E', hl, Lib.hid (Nat.le_trans HP4.out (by omega)), hu3.keep (hu2.keep q0 (fun h => h rfl)) (fun h => h rfl), hu3.keep (hu2.keep q1 (fun h => h rfl)) (fun h => h rfl), Lib.hid ⟨_, _, hD3⟩⟩
                · subst hc
                  have e3 : ((3 : Int) == 3) = true := rfl
                  have e7 : ((3 : Int) == 7) = false := rfl
                  have e4 : ((3 : Int) == 4) = false := rfl
                  have e5 : ((3 : Int) == 5) = false := rfl
                  have e8 : ((3 : Int) == 8) = false := rfl
                  obtain ⟨q, hq⟩ : ∃ q, ((⟨n, l, E⟩ : Wh).find ⟨sa, ga⟩).isSome = q := ⟨_, rfl⟩
                  have HQ := Lib.hid hq
                  have hpc := p_cut HD.out.a.ok.nodup n l ⟨sa, ga⟩
                  rw [hq] at hpc
                  have HPC := Lib.hid hpc
                  have hqq : (q == q) = true := by simp
                  have hD1 := HD.out.quiet (Upto.refl NoS wc).drew
                  clear hq hpc
                  go_upto_region 21 with (fail)
                  go_region_held3 (fun w' => w'.cell? ⟨hb, 0, none⟩ = some (.int .i64 sa) ∧ w'.cell? ⟨hb, 1, none⟩ = some (.int .u32 (ga : Nat)))
                    (first | exact ⟨q0, q1⟩ | exact ⟨hu2.keep q0 (fun h => h rfl), hu2.keep q1 (fun h => h rfl)⟩ | exact ⟨hu3.keep (hu2.keep q0 (fun h => h rfl)) (fun h => h rfl), hu3.keep (hu2.keep q1 (fun h => h rfl)) (fun h => h rfl)⟩)
                    (first | (go_at_call 15; (with_reducible refine (dcut_a hD1 ⟨sa, ga⟩ HLI.out HOK.out HQ.out HPC.out.2.1).mono ?_); rintro e w2 ⟨rfl, Oe, hD2, hu2⟩) | (go_at_call 18; (with_reducible refine (dcut_b hD2 ⟨sa, ga⟩ HLI.out HPC.out.1 HPC.out.2.2).mono ?_); rintro e w3 ⟨rfl, Of, hD3, hu3⟩))
                  go_wp2_with fail
                  go_meet
                  case rel => exact ⟨rfl, l, _, hl, Lib.hid (Nat.le_trans (cutL_le _ _) (by omega)), hu3.keep (hu2.keep q0 (fun h => h rfl)) (fun h => h rfl), hu3.keep (hu2.keep q1 (fun h => h rfl)) (fun h => h rfl), Lib.hid ⟨_, _, hD3⟩⟩
                · subst hc
                  have e3 : ((4 : Int) == 3) = false := rfl
                  have e7 : ((4 : Int) == 7) = false := rfl
                  have e4 : ((4 : Int) == 4) = true := rfl
                  have e5 : ((4 : Int) == 5) = false := rfl
                  have e8 : ((4 : Int) == 8) = false := rfl
                  obtain ⟨t, ht⟩ : ∃ t, (⟨n, l, E⟩ : Wh).turnE nv = t := ⟨_, rfl⟩
                  obtain ⟨q, hq⟩ : ∃ q, ((⟨n, l, E⟩ : Wh).turnL nv).length = q := ⟨_, rfl⟩
                  obtain ⟨p1, p2, l', E', p3, p4, p5, p6⟩ := p_turn n l E nv hl
                  have HSM : Hid (((⟨n, l, E⟩ : Wh).turnL nv).length ≤ 1000000) := Lib.hid (by have := turnL_le n l E nv; omega)
                  rw [ht] at p1
                  have htt : (t == t) = true := by simp
                  have HT := Lib.hid ht
                  have HQ := Lib.hid hq
                  have HP := Lib.hid (And.intro p1 (And.intro p2 (And.intro p3 p4)))
                  have HP5 := Lib.hid p5
                  clear ht hq p1 p2 p3 p4 p5
                  go_wp2_with (first
                    | (go_at_call 12; (with_reducible refine (dturn_a HD.out _ HT.out rfl HP.out.2.2.1 HQ.out).mono ?_); rintro e w2 ⟨a2, c2, rfl, oa, hD2, hu2⟩)
                    | (go_at_call 19; (with_reducible refine (dturn_b hD2 _ HP.out.1 HP.out.2.1 HP.out.2.2.2 HQ.out).mono ?_); rintro e w3 ⟨a3, c3, rfl, ob, ⟨Of, hD3⟩, hu3⟩; have oa3 := hu3.own oa (fun k hk h => h (.inr hk)))
                    | (go_at_call 16; (with_reducible refine (same_to _ oa3 ob HSM.out HSM.out (q := true) (decide_eq_true rfl)).mono ?_); rintro e w4 ⟨rfl, n4, rfl⟩))
                  go_meet
                  case rel => exact ⟨rfl, l', E', p6, Lib.hid (Nat.le_trans HP5.out (by omega)), hu3.keep (hu2.keep q0 (fun h => h rfl)) (fun h => h (.inl rfl)), hu3.keep (hu2.keep q1 (fun h => h rfl)) (fun h => h (.inl rfl)), Lib.hid ⟨_, _, (hD3.quiet ((Upto.refl NoS w3).drewN n4)).mono (fun i hi => .inl (.inl hi))⟩⟩
                · subst hc
                  have e3 : ((5 : Int) == 3) = false := rfl
                  have e7 : ((5 : Int) == 7) = false := rfl
                  have e4 : ((5 : Int) == 4) = false := rfl
                  have e5 : ((5 : Int) == 5) = true := rfl
                  have e8 : ((5 : Int) == 8) = false := rfl
                  obtain ⟨t, ht⟩ : ∃ t, (⟨n, l, E⟩ : Wh).turnE nv = t := ⟨_, rfl⟩
                  obtain ⟨q, hq⟩ : ∃ q, ((⟨n, l, E⟩ : Wh).turnL nv).length = q := ⟨_, rfl⟩
                  obtain ⟨p1, p2, l', E', p3, p4, p5, p6⟩ := p_turn n l E nv hl
                  have HSM : Hid (((⟨n, l, E⟩ : Wh).turnL nv).length ≤ 1000000) := Lib.hid (by have := turnL_le n l E nv; omega)
                  rw [ht] at p1
                  have htt : (t == t) = true := by simp
                  have HT := Lib.hid ht
                  have HQ := Lib.hid hq
                  have HP := Lib.hid (And.intro p1 (And.intro p2 (And.intro p3 p4)))
                  have HP5 := Lib.hid p5
                  clear ht hq p1 p2 p3 p4 p5
                  go_wp2_with (first
                    | (go_at_call 12; (with_reducible refine (dturn_a HD.out _ HT.out rfl HP.out.2.2.1 HQ.out).mono ?_); rintro e w2 ⟨a2, c2, rfl, oa, hD2, hu2⟩)
                    | (go_at_call 19; (with_reducible refine (dturn_b hD2 _ HP.out.1 HP.out.2.1 HP.out.2.2.2 HQ.out).mono ?_); rintro e w3 ⟨a3, c3, rfl, ob, ⟨Of, hD3⟩, hu3⟩; have oa3 := hu3.own oa (fun k hk h => h (.inr hk)))
                    | (go_at_call 16; (with_reducible refine (same_to _ oa3 ob HSM.out HSM.out (q := true) (decide_eq_true rfl)).mono ?_); rintro e w4 ⟨rfl, n4, rfl⟩))
                  go_meet
                  case rel => exact ⟨rfl, l', E', p6, Lib.hid (Nat.le_trans HP5.out (by omega)), hu3.keep (hu2.keep q0 (fun h => h rfl)) (fun h => h (.inl rfl)), hu3.keep (hu2.keep q1 (fun h => h rfl)) (fun h => h (.inl rfl)), Lib.hid ⟨_, _, (hD3.quiet ((Upto.refl NoS w3).drewN n4)).mono (fun i hi => .inl (.inl hi))⟩⟩
                · subst hc
                  have e3 : ((6 : Int) == 3) = false := rfl
                  have e7 : ((6 : Int) == 7) = false := rfl
                  have e4 : ((6 : Int) == 4) = false := rfl
                  have e5 : ((6 : Int) == 5) = false := rfl
                  have e8 : ((6 : Int) == 8) = false := rfl
                  obtain ⟨q, hq⟩ : ∃ q, (⟨n, l, E⟩ : Wh).putE ⟨sa, ga⟩ nv = q := ⟨_, rfl⟩
                  obtain ⟨p1, E', p2, p3, p4⟩ := p_put n l E ⟨sa, ga⟩ nv
                  rw [hq] at p1
                  have hqq : (q == q) = true := by simp
                  have HQ := Lib.hid hq
                  have HP := Lib.hid (And.intro p1 (And.intro p2 p3))
                  have HP4 := Lib.hid p4
                  have hD1 := HD.out.quiet (Upto.refl NoS wc).drew
                  have HSM : Hid (E.length < 1000000) := Lib.hid (by omega)
                  have HSN : Hid ((srt E).length < 1000000) := Lib.hid (by rw [srt_length]; omega)
                  clear hq p1 p2 p3 p4
                  go_upto_region 18 with (fail)
                  go_region_held3 (fun w' => w'.cell? ⟨hb, 0, none⟩ = some (.int .i64 sa) ∧ w'.cell? ⟨hb, 1, none⟩ = some (.int .u32 (ga : Nat)))
                    (first | exact ⟨q0, q1⟩ | exact ⟨hu2.keep q0 (fun h => h rfl), hu2.keep q1 (fun h => h rfl)⟩ | exact ⟨hu3.keep (hu2.keep q0 (fun h => h rfl)) (fun h => h rfl), hu3.keep (hu2.keep q1 (fun h => h rfl)) (fun h => h rfl)⟩)
                    (first | (go_at_call 10; (with_reducible refine (dput_a hD1 ⟨sa, ga⟩ _ HLI.out HOK.out HSM.out HQ.out HP.out.2.1).mono ?_); rintro e w2 ⟨rfl, Oe, hD2, hu2⟩) | (go_at_call 20; (with_reducible refine (dput_b hD2 ⟨sa, ga⟩ _ HLI.out HOK.out HSN.out HP.out.1 HP.out.2.2).mono ?_); rintro e w3 ⟨rfl, Of, hD3, hu3⟩))
                  go_wp2_with fail
                  go_meet
                  case rel => exact ⟨rfl, l, E', hl, Lib.hid (Nat.le_trans HP4.out (by omega)), hu3.keep (hu2.keep q0 (fun h => h rfl)) (fun h => h rfl), hu3.keep (hu2.keep q1 (fun h => h rfl)) (fun h => h rfl), Lib.hid ⟨_, _, hD3⟩⟩
                · subst hc
                  have e3 : ((7 : Int) == 3) = false := rfl
                  have e7 : ((7 : Int) == 7) = true := rfl
                  have e4 : ((7 : Int) == 4) = false := rfl
                  have e5 : ((7 : Int) == 5) = false := rfl
                  have e8 : ((7 : Int) == 8) = false := rfl
                  obtain ⟨q, hq⟩ : ∃ q, ((⟨n, l, E⟩ : Wh).find ⟨sa, ga⟩).isSome = q := ⟨_, rfl⟩
                  have HQ := Lib.hid hq
                  have hpc := p_cut HD.out.a.ok.nodup n l ⟨sa, ga⟩
                  rw [hq] at hpc
                  have HPC := Lib.hid hpc
                  have hqq : (q == q) = true := by simp
                  have hD1 := HD.out.quiet (Upto.refl NoS wc).drew
                  clear hq hpc
                  go_upto_region 21 with (fail)
                  go_region_held3 (fun w' => w'.cell? ⟨hb, 0, none⟩ = some (.int .i64 sa) ∧ w'.cell? ⟨hb, 1, none⟩ = some (.int .u32 (ga : Nat)))
                    (first | exact ⟨q0, q1⟩ | exact ⟨hu2.keep q0 (fun h => h rfl), hu2.keep q1 (fun h => h rfl)⟩ | exact ⟨hu3.keep (hu2.keep q0 (fun h => h rfl)) (fun h => h rfl), hu3.keep (hu2.keep q1 (fun h => h rfl)) (fun h => h rfl)⟩)
                    (first | (go_at_call 15; (with_reducible refine (dcut_a hD1 ⟨sa, ga⟩ HLI.out HOK.out HQ.out HPC.out.2.1).mono ?_); rintro e w2 ⟨rfl, Oe, hD2, hu2⟩) | (go_at_call 18; (with_reducible refine (dcut_b hD2 ⟨sa, ga⟩ HLI.out HPC.out.1 HPC.out.2.2).mono ?_); rintro e w3 ⟨rfl, Of, hD3, hu3⟩))
                  go_wp2_with fail
                  go_meet
                  case rel => exact ⟨rfl, l, _, hl, Lib.hid (Nat.le_trans (cutL_le _ _) (by omega)), hu3.keep (hu2.keep q0 (fun h => h rfl)) (fun h => h rfl), hu3.keep (hu2.keep q1 (fun h => h rfl)) (fun h => h rfl), Lib.hid ⟨_, _, hD3⟩⟩
                · subst hc
                  have e3 : ((8 : Int) == 3) = false := rfl
                  have e7 : ((8 : Int) == 7) = false := rfl
                  have e4 : ((8 : Int) == 4) = false := rfl
                  have e5 : ((8 : Int) == 5) = false := rfl
                  have e8 : ((8 : Int) == 8) = true := rfl
                  obtain ⟨t, ht⟩ : ∃ t, (⟨n, l, E⟩ : Wh).turnE nv = t := ⟨_, rfl⟩
                  obtain ⟨q, hq⟩ : ∃ q, ((⟨n, l, E⟩ : Wh).turnL nv).length = q := ⟨_, rfl⟩
                  obtain ⟨p1, p2, l', E', p3, p4, p5, p6⟩ := p_turn n l E nv hl
                  have HSM : Hid (((⟨n, l, E⟩ : Wh).turnL nv).length ≤ 1000000) := Lib.hid (by have := turnL_le n l E nv; omega)
                  rw [ht] at p1
                  have htt : (t == t) = true := by simp
                  have HT := Lib.hid ht
                  have HQ := Lib.hid hq
                  have HP := Lib.hid (And.intro p1 (And.intro p2 (And.intro p3 p4)))
                  have HP5 := Lib.hid p5
                  clear ht hq p1 p2 p3 p4 p5
                  go_wp2_with (first
                    | (go_at_call 12; (with_reducible refine (dturn_a HD.out _ HT.out rfl HP.out.2.2.1 HQ.out).mono ?_); rintro e w2 ⟨a2, c2, rfl, oa, hD2, hu2⟩)
                    | (go_at_call 19; (with_reducible refine (dturn_b hD2 _ HP.out.1 HP.out.2.1 HP.out.2.2.2 HQ.out).mono ?_); rintro e w3 ⟨a3, c3, rfl, ob, ⟨Of, hD3⟩, hu3⟩; have oa3 := hu3.own oa (fun k hk h => h (.inr hk)))
                    | (go_at_call 16; (with_reducible refine (same_to _ oa3 ob HSM.out HSM.out (q := true) (decide_eq_true rfl)).mono ?_); rintro e w4 ⟨rfl, n4, rfl⟩))
                  go_meet
                  case rel => exact ⟨rfl, l', E', p6, Lib.hid (Nat.le_trans HP5.out (by omega)), hu3.keep (hu2.keep q0 (fun h => h rfl)) (fun h => h (.inl rfl)), hu3.keep (hu2.keep q1 (fun h => h rfl)) (fun h => h (.inl rfl)), Lib.hid ⟨_, _, (hD3.quiet ((Upto.refl NoS w3).drewN n4)).mono (fun i hi => .inl (.inl hi))⟩⟩
              case rest =>
                obtain ⟨rfl, l', E', hl', HE', t0, t1, HD'⟩ := hcut
                obtain ⟨Oc, Od, hD'⟩ := HD'.out
                obtain ⟨dm, dq, hdv⟩ := due_form ((⟨n, l', E'⟩ : Wh).find ⟨sa, ga⟩)
                have hdw : dueR (⟨l', srt E'⟩ : Rf).L ⟨sa, ga⟩ = .tuple #[.int .i64 (dm : Nat), .bool dq] := (ref_due (E := E') hD'.a.ok.nodup ⟨sa, ga⟩).trans hdv
                obtain ⟨m, hm0⟩ : ∃ m, nx E' = m := ⟨_, rfl⟩
                obtain ⟨q, hq0⟩ : ∃ q, okB E' = q := ⟨_, rfl⟩
                obtain ⟨c, hc0⟩ : ∃ c, E'.length = c := ⟨_, rfl⟩
                have hnv : nextV E' = .tuple #[.int .i64 (m : Nat), .bool q] := by unfold nextV; rw [hm0, hq0]
                have HNV := Lib.hid hnv
                have HNW := Lib.hid ((ref_next E').trans hnv)
                have HDV := Lib.hid hdv
                have HDW := Lib.hid hdw
                have HC := Lib.hid hc0
                have HCW : Hid ((srt E').length = c) := Lib.hid (by rw [srt_length]; exact hc0)
                have b1 : ((m : Int) != (m : Int)) = false := by simp
                have b2 : (q != q) = false := by simp
                have b3 : ((c : Int) != (c : Int)) = false := by simp
                have b4 : ((dm : Int) != (dm : Int)) = false := by simp
                have b5 : (dq != dq) = false := by simp
                clear hm0 hq0 hc0 hnv hdv hdw HD q0 q1 HE HD' hEk
                go_wp2_with (first
                  | (go_at_call 21; (with_reducible refine (ddue_a hD' ⟨sa, ga⟩ HLI.out HOK.out HDV.out).mono ?_); rintro e w2 ⟨rfl, Oe, hD2, hu2⟩; replace t0 := hu2.keep t0 (fun h => h rfl); replace t1 := hu2.keep t1 (fun h => h rfl))
                  | (go_at_call 22; (with_reducible refine (ddue_b hD2 ⟨sa, ga⟩ HLI.out HDW.out).mono ?_); rintro e w3 ⟨rfl, Of, hD3, hu3⟩)
                  | (go_at_call 11; (with_reducible refine (dnext_a hD3 HNV.out).mono ?_); rintro e w4 ⟨rfl, Og, hD4, hu4⟩)
                  | (go_at_call 23; (with_reducible refine (dnext_b hD4 HNW.out).mono ?_); rintro e w5 ⟨rfl, rfl⟩)
                  | (go_at_call 13; (with_reducible refine (dcount_a hD4 HC.out).mono ?_); rintro e w6 ⟨rfl, rfl⟩)
                  | (go_at_call 24; (with_reducible refine (dcount_b hD4 HCW.out).mono ?_); rintro e w7 ⟨rfl, rfl⟩))
                go_roundw
                case rel => exact ⟨k + 1, l', E', by omega, by go_num, hl', HE', Lib.hid ⟨_, _, (hD4.mono (fun _ h => h.elim)).du⟩⟩
                case measure => simp [intOf]; omega
        · obtain rfl : k = len := by omega
          go_wp2_with (go_at_call 9; refine (timed_any _).mono ?_; rintro e w3 ⟨rfl, hu⟩)
          go_ret
          exact ⟨rfl, hD.a.u.trans hu⟩
end Go.Proofs.Ytgoaokgoenihlaa
