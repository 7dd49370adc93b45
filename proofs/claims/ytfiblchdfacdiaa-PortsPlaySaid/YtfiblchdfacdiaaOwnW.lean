/- PortsOwn, walked. -/
import Derived.Test.YtfiblchdfacdiaaOwnP
import Derived.Test.YtfiblchdfacdiaaActs
import Derived.Test.YtfiblchdfacdiaaEqr
import Derived.Test.YtfiblchdfacdiaaLet
namespace Go.Proofs.Ytfiblchdfacdiaa
open Go Go.RowKit Go.Deep Go.Maps

theorem P_list_to {w wr : World} {x : Nat} {O K : Nat → Prop} {R : List Rw} (h : PsD w wr x O R K) {n : Nat} {L : List Rw} (hl : n ≤ 1000000) (h1 : R.length = n) (h2 : srt R = L) :
    Calls Try.prog 21 #[.pointer (some ⟨x, 0, none⟩)] wr fun e w' => ∃ a c, e = .returned (.slice a n c) ∧ w'.ownsRow wr.heap.size 42 7 (.slice a n c) n (wcl L) ∧ Upto NoS wr w' := by
  subst h1; subst h2
  exact P_list h hl
theorem P_drop_to {w wr : World} {x : Nat} {O K : Nat → Prop} {R R' : List Rw} {er : Int} (h : PsD w wr x O R K) (p a b : Nat) (hp : p < 256) (ha : a < 4294967296) (hb : b < 65536) (h1 : dr R p a b = (er, R')) :
    Calls Try.prog 19 #[.pointer (some ⟨x, 0, none⟩), .int .u8 p, ev a b] wr (PPost w x K wr (.int .i64 er) R') := by
  have := P_drop h p a b hp ha hb
  rw [h1] at this
  exact this
theorem own_rw {w : World} {base q n c : Nat} {L : List Rw} (h : w.ownsRow base 42 7 (.slice (some ⟨q, 0, none⟩) n c) n (wcl L)) {j : Nat} (hj : j < L.length) :
    w.cell? ⟨q, j * 7, none⟩ = some (.int .u8 ((rwAt L j).p : Nat)) ∧ w.cell? ⟨q, j * 7 + 1, none⟩ = some (.int .u32 ((rwAt L j).oa : Nat)) ∧ w.cell? ⟨q, j * 7 + 2, none⟩ = some (.int .u16 ((rwAt L j).ob : Nat)) ∧ w.cell? ⟨q, j * 7 + 3, none⟩ = some (.int .u32 ((rwAt L j).ia : Nat)) ∧
      w.cell? ⟨q, j * 7 + 4, none⟩ = some (.int .u16 ((rwAt L j).ib : Nat)) ∧ w.cell? ⟨q, j * 7 + 5, none⟩ = some (.int .i64 ((rwAt L j).live : Nat)) ∧ w.cell? ⟨q, j * 7 + 6, none⟩ = some (.int .i64 ((rwAt L j).held : Nat)) := by
  have hc := fun i hi => by
    have := h.cells (g := q) rfl (j * 7 + i) _ (wcl_at L j hj i hi)
    rwa [Addr.add_lit, Nat.zero_add] at this
  exact ⟨hc 0 (by omega), hc 1 (by omega), hc 2 (by omega), hc 3 (by omega), hc 4 (by omega), hc 5 (by omega), hc 6 (by omega)⟩
/-- What the acts' regions read: the wish of few, the act. -/
def Held (h8 h7 : Nat) (S : Ws) (y : ActP) (w : World) : Prop :=
  w.cell? ⟨h8, 0, none⟩ = some (.int .u8 (S.p : Nat)) ∧ w.cell? ⟨h8, 1, none⟩ = some (.int .u32 (S.ia : Nat)) ∧ w.cell? ⟨h8, 2, none⟩ = some (.int .u16 (S.ib : Nat)) ∧ w.cell? ⟨h7, 0, none⟩ = some (.int .u8 (y.k : Nat)) ∧ w.cell? ⟨h7, 1, none⟩ = some (.int .u8 (y.pr : Nat)) ∧ w.cell? ⟨h7, 2, none⟩ = some (.int .u8 (y.i : Nat)) ∧ w.cell? ⟨h7, 3, none⟩ = some (.int .u8 (y.o : Nat)) ∧ w.cell? ⟨h7, 4, none⟩ = some (.int .u8 (y.s : Nat)) ∧ w.cell? ⟨h7, 5, none⟩ = some (.int .u8 (y.W.p : Nat)) ∧ w.cell? ⟨h7, 6, none⟩ = some (.int .u32 (y.W.ia : Nat)) ∧ w.cell? ⟨h7, 7, none⟩ = some (.int .u16 (y.W.ib : Nat)) ∧ w.cell? ⟨h7, 8, none⟩ = some (.int .u32 (y.W.ip : Nat)) ∧ w.cell? ⟨h7, 9, none⟩ = some (.int .u16 (y.W.fr : Nat)) ∧ w.cell? ⟨h7, 10, none⟩ = some (.int .u16 (y.W.tu : Nat)) ∧ w.cell? ⟨h7, 11, none⟩ = some (.int .u16 (y.W.dr : Nat)) ∧ w.cell? ⟨h7, 12, none⟩ = some (.int .u32 (y.fa : Nat)) ∧ w.cell? ⟨h7, 13, none⟩ = some (.int .u16 (y.fb : Nat))
theorem held17 {w : World} {h8 h7 : Nat} {S : Ws} {y : ActP} (r8 : w.rowIs h8 28 7 (wF S)) (r7 : w.rowIs h7 50 14 (acF y)) : Held h8 h7 S y w := by
  obtain ⟨a0, a1, a2, _⟩ := ws_cells r8
  exact ⟨a0, a1, a2, ac_cells r7⟩

set_option maxRecDepth 100000 in
set_option maxHeartbeats 16000000 in
theorem own_walk (w : World) (W0 : Ws) (a : Option Addr) (len cap : Nat) (z : Nat → ActP) (hW0 : W0.Ok) (hm : len ≤ 9223372036854775807) (hz : ActsAt w a len z) :
    Calls Try.prog 5 #[.slice a len cap, wv W0] w (Told (.bool true) w) := by
  have hR0 := new_ws w W0
  obtain ⟨d0, d1, d2, d3, d4, d5, d6⟩ := ws_cells hR0
  have f5 := hR0.frozen 5
  have u0 : Upto NoS w (w.alloc (.cells (wcells W0) 28)) := (Upto.refl NoS w).alloc _
  have hs0 : w.heap.size < (w.alloc (.cells (wcells W0) 28)).heap.size := by simp
  have o5 := hW0.fr
  have o6 := hW0.tu
  have HZ := Lib.hid hz
  clear hz
  by_cases hlen : 60 < len
  · go_enter Try.func5, Try.ntmps5
    go_wp2_with (go_at_call 8; refine (let_any _).mono ?_; rintro e w1 ⟨rfl, hu1⟩)
    go_ret
    exact ⟨rfl, u0.trans hu1⟩
  · go_enter Try.func5, Try.ntmps5
    go_upto_if 28 with (fail)
    go_cut [] (fun wd => ∃ W : Ws, W.Ok ∧ Hid (wd.rowIs w.heap.size 28 7 (wF W)) ∧ Hid (Upto NoS w wd))
    case first =>
      by_cases hbig : 3000 < (W0.tu : Int) - W0.fr
      · have b1 : decide ((3000 : Int) < (W0.tu : Int) - W0.fr) = true := decide_eq_true hbig
        have hw3 : IntKind.u16.wrap ((W0.fr : Int) + 3000) = (W0.fr : Int) + 3000 := IntWalk.u16_in _ (by omega)
        have hR3 : (w.alloc (.cells #[.int .u8 (W0.p : Nat), .int .u32 (W0.ia : Nat), .int .u16 (W0.ib : Nat), .int .u32 (W0.ip : Nat), .int .u16 (W0.fr : Nat), .int .u16 ((W0.fr : Int) + 3000), .int .u16 (W0.dr : Nat)] 28)).rowIs w.heap.size 28 7 (wF ⟨W0.p, W0.ia, W0.ib, W0.ip, W0.fr, W0.fr + 3000, W0.dr⟩) := new_ws w ⟨W0.p, W0.ia, W0.ib, W0.ip, W0.fr, W0.fr + 3000, W0.dr⟩
        have u3 := (Upto.refl NoS w).alloc (.cells #[.int .u8 (W0.p : Nat), .int .u32 (W0.ia : Nat), .int .u16 (W0.ib : Nat), .int .u32 (W0.ip : Nat), .int .u16 (W0.fr : Nat), .int .u16 ((W0.fr : Int) + 3000), .int .u16 (W0.dr : Nat)] 28)
        go_wp2_with fail
        go_meet
        case rel => exact ⟨⟨W0.p, W0.ia, W0.ib, W0.ip, W0.fr, W0.fr + 3000, W0.dr⟩, ⟨hW0.p, hW0.ia, hW0.ib, hW0.ip, hW0.fr, (by show W0.fr + 3000 < 65536; omega), hW0.dr⟩, Lib.hid hR3, Lib.hid u3⟩
      · have b1 : decide ((3000 : Int) < (W0.tu : Int) - W0.fr) = false := decide_eq_false hbig
        go_wp2_with fail
        go_meet
        case rel => exact ⟨W0, hW0, Lib.hid hR0, Lib.hid u0⟩
    case rest =>
      obtain ⟨W, hW, HR0, HU0⟩ := hcut
      clear hR0 d0 d1 d2 d3 d4 d5 d6 f5 u0 o5 o6 hW0
      have hb0 := HR0.out.lt
      generalize hb3 : w.heap.size = b3 at HR0 hb0 hs0 ⊢
      have HB3 := Lib.hid hb3
      clear hb3 hs0
      go_wp2_with (go_at_call 9; refine (P_new w wc HU0.out (fun i => i = b3) (fun k e => by rw [show k = b3 from e]; exact hb0)).mono ?_; rintro e w1 ⟨x, O0, rfl, hP0, hu0⟩; have HR1 := Lib.hid (hu0.row HR0.out id); have HP1 := Lib.hid hP0)
      clear HR0 HU0 hb0 hu0 hP0
      go_loopw [6] (fun v wr => ∃ (k : Nat) (R : List Rw), k ≤ len ∧ v = .int .i64 k ∧ Hid (Good k R) ∧ Hid (wr.rowIs b3 28 7 (wF W)) ∧ Hid (∃ O, PsD w wr x O R (fun i => i = b3))) (fun v _ => len - (intOf v).toNat)
      case atStart => exact ⟨0, [], by omega, rfl, Lib.hid Good.nil, HR1, Lib.hid ⟨O0, HP1.out⟩⟩
      case round =>
        clear HR1 HP1
        obtain ⟨k, R, hkl, rfl, HG, HR, HP⟩ := hrel
        obtain ⟨O1, hP⟩ := HP.out
        by_cases hlt : k < len
        · as_aux_lemma =>
            obtain ⟨hzk, bo, off, ha, hbo, hA⟩ := HZ.out k hlt
            replace hA := hA.upto hP.u
            obtain ⟨y, hy⟩ : ∃ y, z k = y := ⟨_, rfl⟩
            rw [hy] at hA hzk
            clear hy
            obtain ⟨g0, g1, g2, g3, g4, g5, g6, g7, g8, g9, g10, g11, g12, g13⟩ := hA.cells
            subst ha
            have z0 : (0 : Int) ≤ (k : Int) := by omega
            have z1 : (k : Int) < (len : Int) := by omega
            have hR7 := new_ac wr y
            obtain ⟨c0, c1, c2, c3, c4, c5, c6, c7, c8, c9, c10, c11, c12, c13⟩ := ac_cells hR7
            have hu7 : Upto NoS wr (wr.alloc (.cells (acells y) 50)) := (Upto.refl NoS wr).alloc _
            have hs7 : wr.heap.size < (wr.alloc (.cells (acells y) 50)).heap.size := by simp
            have HSo := Lib.hid (small_ok y hzk)
            have hsm := fun W' => Small_any W' y hzk
            have HPT : Hid (∀ W', Calls Try.prog 17 #[actv y] W' (Told (ev (pntA y) (pntB y)) W')) := Lib.hid (fun W' => Point_any W' y hzk)
            have HPB : Hid (pntA y < 4294967296 ∧ pntB y < 65536) := Lib.hid ⟨by unfold pntA; omega, by unfold pntB; omega⟩
            obtain ⟨S, hS⟩ : ∃ S, small y = S := ⟨_, rfl⟩
            rw [hS] at hsm HSo
            have HSM := Lib.hid hsm
            obtain ⟨pa, hpa⟩ : ∃ p, pntA y = p := ⟨_, rfl⟩
            obtain ⟨pb, hpb⟩ : ∃ p, pntB y = p := ⟨_, rfl⟩
            rw [hpa, hpb] at HPT HPB
            obtain ⟨r, hr⟩ : ∃ r : Nat, (y.k : Int) % 6 = r := ⟨y.k % 6, by omega⟩
            have hr6 : r < 6 := by omega
            clear hsm hS hpa hpb hA hzk
            go_upto_block 2 with (go_at_call 16; refine (HSM.out _).mono ?_; rintro e w9 ⟨rfl, hu9⟩; have e7 := hu9.row hR7 id; clear c0 c1 c2 c3 c4 c5 c6 c7 c8 c9 c10 c11 c12 c13; obtain ⟨c0, c1, c2, c3, c4, c5, c6, c7, c8, c9, c10, c11, c12, c13⟩ := ac_cells (e7.alloc (.cells (wcells S) 28)))
            rw [hr]
            have hR8 := new_ws w9 S
            have r7 := e7.alloc (.cells (wcells S) 28)
            have hu2 : Upto NoS wr (w9.alloc (.cells (wcells S) 28)) := (hu7.trans hu9).alloc _
            have hs8 : w9.heap.size < (w9.alloc (.cells (wcells S) 28)).heap.size := by simp
            have hh7 : wr.heap.size < w9.heap.size := Nat.lt_of_lt_of_le hs7 hu9.size
            obtain ⟨O2, hP2⟩ := hP.add (K' := fun i => i = b3 ∨ i = wr.heap.size ∨ i = w9.heap.size) hu2 (fun i hi => by
              rcases hi with e | e | e
              · exact .inl e
              · exact .inr ⟨by omega, by omega⟩
              · exact .inr ⟨by omega, by omega⟩)
            have HR3 := Lib.hid (hu2.row HR.out id)
            have HP2 := Lib.hid hP2
            have HR7 := Lib.hid r7
            have HR8 := Lib.hid hR8
            clear g0 g1 g2 g3 g4 g5 g6 g7 g8 g9 g10 g11 g12 g13 c0 c1 c2 c3 c4 c5 c6 c7 c8 c9 c10 c11 c12 c13 hR7 hu7 hs7 hu9 e7 r7 hR8 hu2 hs8 hP2 hP HP HR hr HSM
            generalize w9.alloc (.cells (wcells S) 28) = W2 at HR3 HP2 HR7 HR8 ⊢
            generalize w9.heap.size = h8 at HP2 HR8 hh7 ⊢
            generalize wr.heap.size = h7 at HP2 HR7 hh7 ⊢
            obtain ⟨hl1, hl2, hl3⟩ := HG.out.lt (by omega)
            have HL1 := Lib.hid hl1
            have HL2 := Lib.hid hl2
            have HL3 := Lib.hid hl3
            clear hl1 hl2 hl3
            go_cut [] (fun wd => ∃ R' : List Rw, Hid (Good (k + 1) R') ∧ Hid (wd.rowIs b3 28 7 (wF W)) ∧ Hid (∃ O, PsD w wd x O R' (fun i => i = b3)))
            case first =>
              rcases (show r < 2 ∨ r = 2 ∨ r = 3 ∨ r = 4 ∨ r = 5 by omega) with hc | hc | hc | hc | hc
              · as_aux_lemma =>
                  have e2 : ((r : Int) == 2) = false := by simp; omega
                  have e3 : ((r : Int) == 3) = false := by simp; omega
                  have e4 : ((r : Int) == 4) = false := by simp; omega
                  have e5 : ((r : Int) == 5) = false := by simp; omega
                  obtain ⟨a0, a1, a2, a3, a4, a5, a6⟩ := ws_cells HR8.out
                  go_wp2_with (go_at_call 14; refine (P_take HP2.out S HSo.out HL1.out HL2.out).mono ?_; rintro e w3 ⟨rfl, O3, hP3, hu3⟩)
                  go_meet
                  case rel => exact ⟨_, Lib.hid (HG.out.tk S), Lib.hid (hu3.row HR3.out (fun h => h (.inl rfl))), Lib.hid ⟨O3, hP3.mono (fun i e => .inl e)⟩⟩
              · as_aux_lemma =>
                  subst hc
                  go_upto_region 14 with (fail)
                  go_region_held3 (fun w' => w'.cell? ⟨h8, 0, none⟩ = some (.int .u8 (S.p : Nat)) ∧ w'.cell? ⟨h8, 1, none⟩ = some (.int .u32 (S.ia : Nat)) ∧ w'.cell? ⟨h8, 2, none⟩ = some (.int .u16 (S.ib : Nat)) ∧ w'.cell? ⟨h7, 0, none⟩ = some (.int .u8 (y.k : Nat)) ∧ w'.cell? ⟨h7, 1, none⟩ = some (.int .u8 (y.pr : Nat)) ∧ w'.cell? ⟨h7, 2, none⟩ = some (.int .u8 (y.i : Nat)) ∧ w'.cell? ⟨h7, 3, none⟩ = some (.int .u8 (y.o : Nat)) ∧ w'.cell? ⟨h7, 4, none⟩ = some (.int .u8 (y.s : Nat)) ∧ w'.cell? ⟨h7, 5, none⟩ = some (.int .u8 (y.W.p : Nat)) ∧ w'.cell? ⟨h7, 6, none⟩ = some (.int .u32 (y.W.ia : Nat)) ∧ w'.cell? ⟨h7, 7, none⟩ = some (.int .u16 (y.W.ib : Nat)) ∧ w'.cell? ⟨h7, 8, none⟩ = some (.int .u32 (y.W.ip : Nat)) ∧ w'.cell? ⟨h7, 9, none⟩ = some (.int .u16 (y.W.fr : Nat)) ∧ w'.cell? ⟨h7, 10, none⟩ = some (.int .u16 (y.W.tu : Nat)) ∧ w'.cell? ⟨h7, 11, none⟩ = some (.int .u16 (y.W.dr : Nat)) ∧ w'.cell? ⟨h7, 12, none⟩ = some (.int .u32 (y.fa : Nat)) ∧ w'.cell? ⟨h7, 13, none⟩ = some (.int .u16 (y.fb : Nat)))
                    (first | exact held17 HR8.out HR7.out | exact held17 x8 x7 | exact held17 (hu3.row x8 (fun h => h (.inr (.inr rfl)))) (hu3.row x7 (fun h => h (.inr (.inl rfl)))))
                    (first
                      | (go_at_call 17; refine (HPT.out _).mono ?_; rintro e w5 ⟨rfl, hu5⟩; have hP5 := HP2.out.quiet (((Upto.refl NoS W2).drew).trans hu5); have x8 := (((Upto.refl NoS W2).drew).trans hu5).row HR8.out id; have x7 := (((Upto.refl NoS W2).drew).trans hu5).row HR7.out id; have x3 := (((Upto.refl NoS W2).drew).trans hu5).row HR3.out id)
                      | (go_at_call 13; refine (P_fix hP5 S.p S.ia S.ib pa pb HSo.out.p HSo.out.ia HSo.out.ib HPB.out.1 HPB.out.2 HL1.out HL2.out).mono ?_; rintro e w3 ⟨rfl, O3, hP3, hu3⟩))
                  go_wp2_with fail
                  go_meet
                  case rel => exact ⟨_, Lib.hid (HG.out.fx S.p S.ia S.ib pa pb), Lib.hid (hu3.row x3 (fun h => h (.inl rfl))), Lib.hid ⟨O3, hP3.mono (fun i e => .inl e)⟩⟩
              · as_aux_lemma =>
                  subst hc
                  go_upto_region 16 with (fail)
                  go_region_held3 (fun w' => w'.cell? ⟨h8, 0, none⟩ = some (.int .u8 (S.p : Nat)) ∧ w'.cell? ⟨h8, 1, none⟩ = some (.int .u32 (S.ia : Nat)) ∧ w'.cell? ⟨h8, 2, none⟩ = some (.int .u16 (S.ib : Nat)) ∧ w'.cell? ⟨h7, 0, none⟩ = some (.int .u8 (y.k : Nat)) ∧ w'.cell? ⟨h7, 1, none⟩ = some (.int .u8 (y.pr : Nat)) ∧ w'.cell? ⟨h7, 2, none⟩ = some (.int .u8 (y.i : Nat)) ∧ w'.cell? ⟨h7, 3, none⟩ = some (.int .u8 (y.o : Nat)) ∧ w'.cell? ⟨h7, 4, none⟩ = some (.int .u8 (y.s : Nat)) ∧ w'.cell? ⟨h7, 5, none⟩ = some (.int .u8 (y.W.p : Nat)) ∧ w'.cell? ⟨h7, 6, none⟩ = some (.int .u32 (y.W.ia : Nat)) ∧ w'.cell? ⟨h7, 7, none⟩ = some (.int .u16 (y.W.ib : Nat)) ∧ w'.cell? ⟨h7, 8, none⟩ = some (.int .u32 (y.W.ip : Nat)) ∧ w'.cell? ⟨h7, 9, none⟩ = some (.int .u16 (y.W.fr : Nat)) ∧ w'.cell? ⟨h7, 10, none⟩ = some (.int .u16 (y.W.tu : Nat)) ∧ w'.cell? ⟨h7, 11, none⟩ = some (.int .u16 (y.W.dr : Nat)) ∧ w'.cell? ⟨h7, 12, none⟩ = some (.int .u32 (y.fa : Nat)) ∧ w'.cell? ⟨h7, 13, none⟩ = some (.int .u16 (y.fb : Nat)))
                    (first | exact held17 HR8.out HR7.out | exact held17 x8 x7 | exact held17 (hu3.row x8 (fun h => h (.inr (.inr rfl)))) (hu3.row x7 (fun h => h (.inr (.inl rfl)))))
                    (first
                      | (go_at_call 17; refine (HPT.out _).mono ?_; rintro e w5 ⟨rfl, hu5⟩; have hP5 := HP2.out.quiet (((Upto.refl NoS W2).drew).trans hu5); have x8 := (((Upto.refl NoS W2).drew).trans hu5).row HR8.out id; have x7 := (((Upto.refl NoS W2).drew).trans hu5).row HR7.out id; have x3 := (((Upto.refl NoS W2).drew).trans hu5).row HR3.out id)
                      | (go_at_call 18; refine (P_conf hP5 S.p pa pb HSo.out.p HPB.out.1 HPB.out.2 HL3.out).mono ?_; rintro e w3 ⟨rfl, O3, hP3, hu3⟩))
                  go_wp2_with fail
                  go_meet
                  case rel => exact ⟨_, Lib.hid (HG.out.cf S.p pa pb), Lib.hid (hu3.row x3 (fun h => h (.inl rfl))), Lib.hid ⟨O3, hP3.mono (fun i e => .inl e)⟩⟩
              · as_aux_lemma =>
                  subst hc
                  go_upto_region 18 with (fail)
                  go_region_held3 (fun w' => w'.cell? ⟨h8, 0, none⟩ = some (.int .u8 (S.p : Nat)) ∧ w'.cell? ⟨h8, 1, none⟩ = some (.int .u32 (S.ia : Nat)) ∧ w'.cell? ⟨h8, 2, none⟩ = some (.int .u16 (S.ib : Nat)) ∧ w'.cell? ⟨h7, 0, none⟩ = some (.int .u8 (y.k : Nat)) ∧ w'.cell? ⟨h7, 1, none⟩ = some (.int .u8 (y.pr : Nat)) ∧ w'.cell? ⟨h7, 2, none⟩ = some (.int .u8 (y.i : Nat)) ∧ w'.cell? ⟨h7, 3, none⟩ = some (.int .u8 (y.o : Nat)) ∧ w'.cell? ⟨h7, 4, none⟩ = some (.int .u8 (y.s : Nat)) ∧ w'.cell? ⟨h7, 5, none⟩ = some (.int .u8 (y.W.p : Nat)) ∧ w'.cell? ⟨h7, 6, none⟩ = some (.int .u32 (y.W.ia : Nat)) ∧ w'.cell? ⟨h7, 7, none⟩ = some (.int .u16 (y.W.ib : Nat)) ∧ w'.cell? ⟨h7, 8, none⟩ = some (.int .u32 (y.W.ip : Nat)) ∧ w'.cell? ⟨h7, 9, none⟩ = some (.int .u16 (y.W.fr : Nat)) ∧ w'.cell? ⟨h7, 10, none⟩ = some (.int .u16 (y.W.tu : Nat)) ∧ w'.cell? ⟨h7, 11, none⟩ = some (.int .u16 (y.W.dr : Nat)) ∧ w'.cell? ⟨h7, 12, none⟩ = some (.int .u32 (y.fa : Nat)) ∧ w'.cell? ⟨h7, 13, none⟩ = some (.int .u16 (y.fb : Nat)))
                    (first | exact held17 HR8.out HR7.out | exact held17 x8 x7 | exact held17 (hu3.row x8 (fun h => h (.inr (.inr rfl)))) (hu3.row x7 (fun h => h (.inr (.inl rfl)))))
                    (first
                      | (go_at_call 17; refine (HPT.out _).mono ?_; rintro e w5 ⟨rfl, hu5⟩; have hP5 := HP2.out.quiet (((Upto.refl NoS W2).drew).trans hu5); have x8 := (((Upto.refl NoS W2).drew).trans hu5).row HR8.out id; have x7 := (((Upto.refl NoS W2).drew).trans hu5).row HR7.out id; have x3 := (((Upto.refl NoS W2).drew).trans hu5).row HR3.out id)
                      | (go_at_call 19; refine (P_drop hP5 S.p pa pb HSo.out.p HPB.out.1 HPB.out.2).mono ?_; rintro e w3 ⟨rfl, O3, hP3, hu3⟩))
                  go_wp2_with fail
                  go_meet
                  case rel => exact ⟨_, Lib.hid (HG.out.dr HP2.out.keyO S.p pa pb), Lib.hid (hu3.row x3 (fun h => h (.inl rfl))), Lib.hid ⟨O3, hP3.mono (fun i e => .inl e)⟩⟩
              · as_aux_lemma =>
                  subst hc
                  go_upto_region 20 with (fail)
                  go_region_held3 (fun w' => w'.cell? ⟨h8, 0, none⟩ = some (.int .u8 (S.p : Nat)) ∧ w'.cell? ⟨h8, 1, none⟩ = some (.int .u32 (S.ia : Nat)) ∧ w'.cell? ⟨h8, 2, none⟩ = some (.int .u16 (S.ib : Nat)) ∧ w'.cell? ⟨h7, 0, none⟩ = some (.int .u8 (y.k : Nat)) ∧ w'.cell? ⟨h7, 1, none⟩ = some (.int .u8 (y.pr : Nat)) ∧ w'.cell? ⟨h7, 2, none⟩ = some (.int .u8 (y.i : Nat)) ∧ w'.cell? ⟨h7, 3, none⟩ = some (.int .u8 (y.o : Nat)) ∧ w'.cell? ⟨h7, 4, none⟩ = some (.int .u8 (y.s : Nat)) ∧ w'.cell? ⟨h7, 5, none⟩ = some (.int .u8 (y.W.p : Nat)) ∧ w'.cell? ⟨h7, 6, none⟩ = some (.int .u32 (y.W.ia : Nat)) ∧ w'.cell? ⟨h7, 7, none⟩ = some (.int .u16 (y.W.ib : Nat)) ∧ w'.cell? ⟨h7, 8, none⟩ = some (.int .u32 (y.W.ip : Nat)) ∧ w'.cell? ⟨h7, 9, none⟩ = some (.int .u16 (y.W.fr : Nat)) ∧ w'.cell? ⟨h7, 10, none⟩ = some (.int .u16 (y.W.tu : Nat)) ∧ w'.cell? ⟨h7, 11, none⟩ = some (.int .u16 (y.W.dr : Nat)) ∧ w'.cell? ⟨h7, 12, none⟩ = some (.int .u32 (y.fa : Nat)) ∧ w'.cell? ⟨h7, 13, none⟩ = some (.int .u16 (y.fb : Nat)))
                    (first | exact held17 HR8.out HR7.out | exact held17 x8 x7 | exact held17 (hu3.row x8 (fun h => h (.inr (.inr rfl)))) (hu3.row x7 (fun h => h (.inr (.inl rfl)))))
                    (first
                      | (go_at_call 17; refine (HPT.out _).mono ?_; rintro e w5 ⟨rfl, hu5⟩; have hP5 := HP2.out.quiet (((Upto.refl NoS W2).drew).trans hu5); have x8 := (((Upto.refl NoS W2).drew).trans hu5).row HR8.out id; have x7 := (((Upto.refl NoS W2).drew).trans hu5).row HR7.out id; have x3 := (((Upto.refl NoS W2).drew).trans hu5).row HR3.out id)
                      | (go_at_call 20; refine (P_rel hP5 S.p pa pb HSo.out.p HPB.out.1 HPB.out.2).mono ?_; rintro e w3 ⟨rfl, O3, hP3, hu3⟩))
                  go_wp2_with fail
                  go_meet
                  case rel => exact ⟨_, Lib.hid (HG.out.rl HP2.out.keyO S.p pa pb), Lib.hid (hu3.row x3 (fun h => h (.inl rfl))), Lib.hid ⟨O3, hP3.mono (fun i e => .inl e)⟩⟩
            case rest =>
              as_aux_lemma =>
                clear HR3 HP2 HR7 HR8 HL1 HL2 HL3 HG HPT HPB HSo hh7
                obtain ⟨R', HG, HR3, HP'⟩ := hcut
                obtain ⟨O3, hP3⟩ := HP'.out
                obtain ⟨n, hn⟩ : ∃ n, R'.length = n := ⟨_, rfl⟩
                obtain ⟨L, hL⟩ : ∃ L, srt R' = L := ⟨_, rfl⟩
                have hn61 : n ≤ 61 := by have := HG.out.len; omega
                have HN := Lib.hid hn
                have HL := Lib.hid hL
                have HLN : Hid (L.length = n) := Lib.hid (by rw [← hL, srt_len, hn])
                clear hn hL
                go_wp2_with (go_at_call 21; refine (P_list_to hP3 (by omega) HN.out HL.out).mono ?_; rintro e w4 ⟨la, lc, rfl, ho4, hu4⟩; have HO4 := Lib.hid ho4; have HU4 := Lib.hid hu4; have HP3 := Lib.hid hP3; clear ho4 hu4 hP3)
                go_loopw [10] (fun v wy => ∃ m : Nat, m ≤ n ∧ v = .int .i64 m ∧ Hid (Upto NoS w4 wy)) (fun v _ => n - (intOf v).toNat)
                case atStart => exact ⟨0, by omega, rfl, Lib.hid (Upto.refl _ _)⟩
                case round =>
                  obtain ⟨m, hmn, rfl, HUy⟩ := hrel
                  by_cases hltm : m < n
                  · have ho := HUy.out.own HO4.out (fun _ _ h => h)
                    obtain ⟨q, cp, e8, _, _⟩ := own_form ho (by omega)
                    simp only [Value.slice.injEq, true_and] at e8
                    obtain ⟨rfl, rfl⟩ := e8
                    have hmL : m < L.length := by rw [HLN.out]; exact hltm
                    obtain ⟨k0, k1, k2, k3, k4, k5, k6⟩ := own_rw ho hmL
                    have hin : rwAt L m ∈ R' := by rw [← HL.out]; exact srt_mem (by rw [HN.out]; exact hltm)
                    have hea := HG.out.each _ hin
                    have HPR : Hid (∀ j, j < m → ¬ ((rwAt L j).p = (rwAt L m).p ∧ (((rwAt L j).ia = (rwAt L m).ia ∧ (rwAt L j).ib = (rwAt L m).ib) ∨ ((rwAt L j).oa = (rwAt L m).oa ∧ (rwAt L j).ob = (rwAt L m).ob)))) := Lib.hid (fun j hj => by rw [← HL.out]; exact srt_pair HP3.out.keyO HP3.out.keyI hj (by rw [HN.out]; exact hltm))
                    obtain ⟨⟨p, oa, oq, ia, ib, lv, hd⟩, hrk⟩ : ∃ r, rwAt L m = r := ⟨_, rfl⟩
                    rw [hrk] at k0 k1 k2 k3 k4 k5 k6 hea HPR
                    have HRK := Lib.hid hrk
                    have hea1 : 0 < lv + hd := hea.1
                    have hea2 : lv ≤ k + 1 := hea.2.1
                    have hea3 : hd ≤ k + 1 := hea.2.2
                    simp only at k0 k1 k2 k3 k4 k5 k6
                    have x0 : (0 : Int) ≤ (m : Int) := by omega
                    have x1 : (m : Int) < (n : Int) := by omega
                    have y1 : decide ((lv : Int) < 0) = false := by simp
                    have y2 : decide ((hd : Int) < 0) = false := by simp
                    have hwr : IntKind.i64.wrap ((lv : Int) + hd) = (lv : Int) + hd := IntWalk.i64_in _ (by omega)
                    have y3 : (((lv : Int) + hd) == 0) = false := by simp; omega
                    clear hin hea hrk ho hmL
                    go_upto_region 25 with (fail)
                    go_quiet (fail)
                    go_wp2_with fail
                    go_loopw [11] (fun v wz => ∃ j : Nat, j ≤ m ∧ v = .int .i64 j ∧ Hid (Upto NoS w4 wz)) (fun v _ => m - (intOf v).toNat)
                    case atStart => exact ⟨0, by omega, rfl, Lib.hid (HUy.out.drewN _)⟩
                    case round =>
                      clear k0 k1 k2 k3 k4 k5 k6
                      obtain ⟨j, hjm, rfl, HUz⟩ := hrel
                      by_cases hltj : j < m
                      · have ho := HUz.out.own HO4.out (fun _ _ h => h)
                        have hmL : m < L.length := by rw [HLN.out]; exact hltm
                        obtain ⟨k0, k1, k2, k3, k4, k5, k6⟩ := own_rw ho hmL
                        rw [HRK.out] at k0 k1 k2 k3 k4 k5 k6
                        simp only at k0 k1 k2 k3 k4 k5 k6
                        obtain ⟨l0, l1, l2, l3, l4, l5, l6⟩ := own_rw ho (j := j) (by omega)
                        have hpr := HPR.out j hltj
                        obtain ⟨⟨p', oa', oq', ia', ib', lv', hd'⟩, hrj⟩ : ∃ r, rwAt L j = r := ⟨_, rfl⟩
                        rw [hrj] at l0 l1 l2 l3 l4 l5 l6 hpr
                        simp only at l0 l1 l2 l3 l4 l5 l6 hpr
                        have w0 : (0 : Int) ≤ (j : Int) := by omega
                        have w1 : (j : Int) < (n : Int) := by omega
                        clear hrj ho hmL
                        by_cases hp : p' = p
                        · as_aux_lemma =>
                            subst hp
                            have hb1 : (ia' == ia && ib' == ib) = false := by
                              rw [Bool.and_eq_false_iff]
                              by_cases e : ia' = ia
                              · right; simpa using fun e' => hpr ⟨rfl, .inl ⟨e, e'⟩⟩
                              · left; simpa using e
                            have hb2 : (oa' == oa && oq' == oq) = false := by
                              rw [Bool.and_eq_false_iff]
                              by_cases e : oa' = oa
                              · right; simpa using fun e' => hpr ⟨rfl, .inr ⟨e, e'⟩⟩
                              · left; simpa using e
                            have q1 := fun w' => eq26 w' ia' ib' ia ib
                            have q2 := fun w' => eq26 w' oa' oq' oa oq
                            rw [hb1] at q1
                            rw [hb2] at q2
                            have q3 := fun w' x y => guard26e w' x y ia' ib' ia ib
                            have q4 := fun w' x y => guard26e w' x y oa' oq' oa oq
                            have q5 : ((p' : Int) == (p' : Int)) = true := by simp
                            clear hb1 hb2 hpr
                            go_upto_region 30 with (fail)
                            go_quiet (fail)
                            go_wp2_with fail
                            go_roundw
                            case rel => exact ⟨j + 1, by omega, by go_num, Lib.hid (HUz.out.drewN _)⟩
                            case measure => simp [intOf]; omega
                        · as_aux_lemma =>
                            have q5 : ((p' : Int) == (p : Int)) = false := by simp; omega
                            have q6 : (p' == p) = false := by simpa using hp
                            have q7 : decide (p' = p) = false := by simpa using hp
                            clear hpr
                            go_upto_region 30 with (fail)
                            go_quiet (fail)
                            go_wp2_with fail
                            go_roundw
                            case rel => exact ⟨j + 1, by omega, by go_num, Lib.hid (HUz.out.drewN _)⟩
                            case measure => simp [intOf]; omega
                      · obtain rfl : j = m := by omega
                        go_wp2_with fail
                        go_roundw
                        case rel => exact ⟨j + 1, by omega, by go_num, HUz⟩
                        case measure => simp [intOf]; omega
                  · obtain rfl : m = n := by omega
                    go_wp2_with fail
                    go_roundw
                    case rel => exact ⟨k + 1, R', by omega, by go_num, HG, Lib.hid ((HU4.out.trans HUy.out).row HR3.out id), Lib.hid ⟨O3, HP3.out.quiet (HU4.out.trans HUy.out)⟩⟩
                    case measure => simp [intOf]; omega
        · as_aux_lemma =>
            obtain rfl : k = len := by omega
            obtain ⟨n, hn⟩ : ∃ n, R.length = n := ⟨_, rfl⟩
            obtain ⟨L, hL⟩ : ∃ L, srt R = L := ⟨_, rfl⟩
            have hn61 : n ≤ 61 := by have := HG.out.len; omega
            have HN := Lib.hid hn
            have HL := Lib.hid hL
            have HLN : Hid (L.length = n) := Lib.hid (by rw [← hL, srt_len, hn])
            obtain ⟨hl1, hl2, hl3⟩ := HG.out.lt (by omega)
            have hbl := HR.out.lt
            have htd := take_drop hP.keyO (fun r hr => (HG.out.each r hr).1) W
            clear hn hL
            go_upto_region 34 with (first
              | (go_at_call 21; refine (P_list_to hP (by omega) HN.out HL.out).mono ?_; rintro e w4 ⟨la, lc, rfl, ho4, hu4⟩; obtain ⟨O4, hP4⟩ := hP.add (K' := fun i => i = b3 ∨ (Value.slice la n lc).ownBlock = some i) hu4 (fun i hi => hi.elim .inl (fun e => .inr ⟨(ho4.lt i e).1, (ho4.lt i e).2⟩)); have hR4 := hu4.row HR.out id; obtain ⟨a0, a1, a2, a3, a4, a5, a6⟩ := ws_cells hR4; have HO4 := Lib.hid ho4; have HP4 := Lib.hid hP4; have HR4 := Lib.hid hR4; clear ho4 hu4 hP4 hR4)
              | (go_at_call 14; refine (P_take HP4.out W hW hl1 hl2).mono ?_; generalize hT : tk R W = T at htd ⊢; obtain ⟨A, B, E, R2⟩ := T; rintro e w5 ⟨rfl, O5, hP5, hu5⟩; have HO5 := Lib.hid (hu5.own HO4.out (fun i hi h => h (.inr hi))); have HR5 := Lib.hid (hu5.row HR4.out (fun h => h (.inl rfl))); have HP5 := Lib.hid hP5; clear hP5 hu5 HO4 HR4 HP4 a0 a1 a2 a3 a4 a5 a6))
            have hu6 : Upto NoS w5 (w5.alloc (.cells #[.int .u32 (A : Nat), .int .u16 (B : Nat)] 26)) := (Upto.refl NoS w5).alloc _
            obtain ⟨O6, hP6⟩ := HP5.out.add (K' := fun i => (i = b3 ∨ (Value.slice la n lc).ownBlock = some i) ∨ i = w5.heap.size) hu6 (fun i hi => hi.elim .inl (fun e => .inr ⟨by omega, by rw [show i = w5.heap.size from e]; simp⟩))
            have n0 := new_1 w5 #[.int .u32 (A : Nat), .int .u16 (B : Nat)] 26 0 (.int .u32 (A : Nat)) rfl
            have n1 := new_1 w5 #[.int .u32 (A : Nat), .int .u16 (B : Nat)] 26 1 (.int .u16 (B : Nat)) rfl
            obtain ⟨a0, a1, a2, a3, a4, a5, a6⟩ := ws_cells (hu6.row HR5.out id)
            have HP6 := Lib.hid hP6
            have HO6 := Lib.hid (hu6.own HO5.out (fun _ _ h => h))
            clear HP5 HO5 HR5 hP6 hu6 hP hT HR
            generalize w5.alloc (.cells #[.int .u32 (A : Nat), .int .u16 (B : Nat)] 26) = W6 at HP6 HO6 n0 n1 a0 a1 a2 a3 a4 a5 a6 ⊢
            rcases htd with ⟨hE, hRR⟩ | ⟨hE, hA, hB1, hB2, hD⟩
            · as_aux_lemma =>
                have hE : E ≠ 0 := hE
                have hRR : R2 = R := hRR
                subst hRR
                have e1 : (E == 0) = false := by simpa using hE
                go_wp2_with (go_at_call 21; refine (P_list_to HP6.out (by omega) HN.out HL.out).mono ?_; rintro e w8 ⟨lb, ld, rfl, ho8, hu8⟩; have HOa := Lib.hid (hu8.own HO6.out (fun _ _ h => h)); have HOb := Lib.hid ho8; have HU8 := Lib.hid ((HP6.out).u.trans hu8); clear ho8 hu8)
                go_loopw [16] (fun v wy => ∃ m : Nat, m ≤ n ∧ v = .int .i64 m ∧ Hid (Upto NoS w8 wy)) (fun v _ => n - (intOf v).toNat)
                case atStart => exact ⟨0, by omega, rfl, Lib.hid (Upto.refl _ _)⟩
                case round =>
                  obtain ⟨m, hmn, rfl, HUy⟩ := hrel
                  by_cases hltm : m < n
                  · have ho1 := HUy.out.own HOa.out (fun _ _ h => h)
                    have ho2 := HUy.out.own HOb.out (fun _ _ h => h)
                    obtain ⟨q, cp, e8, _, _⟩ := own_form ho1 (by omega)
                    simp only [Value.slice.injEq, true_and] at e8
                    obtain ⟨rfl, rfl⟩ := e8
                    obtain ⟨q2, cp2, e9, _, _⟩ := own_form ho2 (by omega)
                    simp only [Value.slice.injEq, true_and] at e9
                    obtain ⟨rfl, rfl⟩ := e9
                    have hmL : m < L.length := by rw [HLN.out]; exact hltm
                    obtain ⟨k0, k1, k2, k3, k4, k5, k6⟩ := own_rw ho1 hmL
                    obtain ⟨l0, l1, l2, l3, l4, l5, l6⟩ := own_rw ho2 hmL
                    obtain ⟨rk, hrk⟩ : ∃ r, rwAt L m = r := ⟨_, rfl⟩
                    rw [hrk] at k0 k1 k2 k3 k4 k5 k6 l0 l1 l2 l3 l4 l5 l6
                    have q1 := fun w' => neq42 w' rk
                    have q2' := fun w' x y => guard42 w' x y rk
                    have x0 : (0 : Int) ≤ (m : Int) := by omega
                    have x1 : (m : Int) < (n : Int) := by omega
                    clear hrk ho1 ho2 hmL
                    go_upto_region 42 with (fail)
                    go_quiet (fail)
                    go_wp2_with fail
                    go_roundw
                    case rel => exact ⟨m + 1, by omega, by go_num, Lib.hid (HUy.out.drewN _)⟩
                    case measure => simp [intOf]; omega
                  · obtain rfl : m = n := by omega
                    go_wp2_with (go_at_call 8; refine (let_any _).mono ?_; rintro e w9 ⟨rfl, hu9⟩)
                    go_ret
                    exact ⟨rfl, (HU8.out.trans HUy.out).trans hu9⟩
            · as_aux_lemma =>
                have hE : E = 0 := hE
                have hA : A = W.ip := hA
                have hB1 : W.fr ≤ B := hB1
                have hB2 : B ≤ W.tu := hB2
                have hD : dr R2 W.p A B = (0, R) := hD
                subst hE
                subst hA
                have b1 : ((W.ip : Int) != (W.ip : Int)) = false := by simp
                have b2 : decide ((B : Int) < (W.fr : Int)) = false := by simp; omega
                have b4 : decide ((W.tu : Int) < (B : Int)) = false := by simp; omega
                have hBl : B < 65536 := by have := hW.tu; omega
                have HBL := Lib.hid hBl
                have HD := Lib.hid hD
                clear hD hBl
                go_upto_region 36 with (go_at_call 19; refine (P_drop_to HP6.out W.p W.ip B hW.p hW.ip HBL.out HD.out).mono ?_; rintro e w7 ⟨rfl, O7, hP7, hu7⟩; have HP7 := Lib.hid hP7; have HO7 := Lib.hid (hu7.own HO6.out (fun i hi h => h (.inl (.inr hi)))); clear hP7 hu7)
                go_wp2_with (go_at_call 21; refine (P_list_to HP7.out (by omega) HN.out HL.out).mono ?_; rintro e w8 ⟨lb, ld, rfl, ho8, hu8⟩; have HOa := Lib.hid (hu8.own HO7.out (fun _ _ h => h)); have HOb := Lib.hid ho8; have HU8 := Lib.hid ((HP7.out).u.trans hu8); clear ho8 hu8)
                go_loopw [16] (fun v wy => ∃ m : Nat, m ≤ n ∧ v = .int .i64 m ∧ Hid (Upto NoS w8 wy)) (fun v _ => n - (intOf v).toNat)
                case atStart => exact ⟨0, by omega, rfl, Lib.hid (Upto.refl _ _)⟩
                case round =>
                  obtain ⟨m, hmn, rfl, HUy⟩ := hrel
                  by_cases hltm : m < n
                  · have ho1 := HUy.out.own HOa.out (fun _ _ h => h)
                    have ho2 := HUy.out.own HOb.out (fun _ _ h => h)
                    obtain ⟨q, cp, e8, _, _⟩ := own_form ho1 (by omega)
                    simp only [Value.slice.injEq, true_and] at e8
                    obtain ⟨rfl, rfl⟩ := e8
                    obtain ⟨q2, cp2, e9, _, _⟩ := own_form ho2 (by omega)
                    simp only [Value.slice.injEq, true_and] at e9
                    obtain ⟨rfl, rfl⟩ := e9
                    have hmL : m < L.length := by rw [HLN.out]; exact hltm
                    obtain ⟨k0, k1, k2, k3, k4, k5, k6⟩ := own_rw ho1 hmL
                    obtain ⟨l0, l1, l2, l3, l4, l5, l6⟩ := own_rw ho2 hmL
                    obtain ⟨rk, hrk⟩ : ∃ r, rwAt L m = r := ⟨_, rfl⟩
                    rw [hrk] at k0 k1 k2 k3 k4 k5 k6 l0 l1 l2 l3 l4 l5 l6
                    have q1 := fun w' => neq42 w' rk
                    have q2' := fun w' x y => guard42 w' x y rk
                    have x0 : (0 : Int) ≤ (m : Int) := by omega
                    have x1 : (m : Int) < (n : Int) := by omega
                    clear hrk ho1 ho2 hmL
                    go_upto_region 42 with (fail)
                    go_quiet (fail)
                    go_wp2_with fail
                    go_roundw
                    case rel => exact ⟨m + 1, by omega, by go_num, Lib.hid (HUy.out.drewN _)⟩
                    case measure => simp [intOf]; omega
                  · obtain rfl : m = n := by omega
                    go_wp2_with (go_at_call 8; refine (let_any _).mono ?_; rintro e w9 ⟨rfl, hu9⟩)
                    go_ret
                    exact ⟨rfl, (HU8.out.trans HUy.out).trans hu9⟩
end Go.Proofs.Ytfiblchdfacdiaa
