/- PortsEven, walked. -/
import Derived.Test.YtfiblchdfacdiaaEvenP
import Derived.Test.YtfiblchdfacdiaaOpenB
import Derived.Test.YtfiblchdfacdiaaLet
namespace Go.Proofs.Ytfiblchdfacdiaa
open Go Go.RowKit Go.Deep Go.Maps

/-- The variables of PortsEven: the wish, the inner endpoint that goes on. -/
structure EvF (w : World) (B H : Nat) (W : Ws) (h : Nat) : Prop where
  wr : w.rowIs B 28 7 (wF W)
  hd : w.rowIs H 26 2 (epF ((W.ia + 1) % 4294967296 : Nat) (h : Nat))
theorem EvF.upto {S : Nat → Prop} {w w' : World} {B H h : Nat} {W : Ws} (k : EvF w B H W h) (hu : Upto S w w') (hS : ∀ i, S i → i ≠ B ∧ i ≠ H) : EvF w' B H W h :=
  ⟨hu.row k.wr (fun hs => (hS _ hs).1 rfl), hu.row k.hd (fun hs => (hS _ hs).2 rfl)⟩
theorem EvF.no {w w' : World} {B H h : Nat} {W : Ws} (k : EvF w B H W h) (hu : Upto NoS w w') : EvF w' B H W h := k.upto hu (fun _ h => h.elim)
/-- The endpoint's port set. -/
theorem EvF.set {w : World} {B H h : Nat} {W : Ws} (k : EvF w B H W h) (hne : B ≠ H) (v : Nat) : EvF (w.setCell ⟨H, 1, none⟩ (.int .u16 (v : Nat))) B H W v := by
  have hu : Upto (fun i => i = H) w (w.setCell ⟨H, 1, none⟩ (.int .u16 (v : Nat))) := (Upto.refl (fun i => i = H) w).setB rfl _
  refine ⟨hu.row k.wr hne, (k.hd.set 1 _).congr fun i hi => ?_⟩
  match i, hi with
  | 0, _ => rfl
  | 1, _ => rfl

set_option maxRecDepth 100000 in
set_option maxHeartbeats 16000000 in
theorem even_walk (w : World) (W0 : Ws) (a : Option Addr) (len cap : Nat) (z : Nat → Nat) (hW0 : W0.Ok) (hm : len ≤ 9223372036854775807) (hz : BytesAt w a len z) :
    Calls Try.prog 4 #[wv W0, .slice a len cap] w (Told (.bool true) w) := by
  have hR0 := new_ws w W0
  have u0 := (Upto.refl NoS w).alloc (.cells (wcells W0) 28)
  obtain ⟨d0, d1, d2, d3, d4, d5, d6⟩ := ws_cells hR0
  have f5 := hR0.frozen 5
  obtain ⟨o1, o2, o3, o4, o5, o6, o7⟩ := hW0
  have wN : IntKind.i64.wrap ((W0.tu : Int) - W0.fr) = (W0.tu : Int) - W0.fr := IntWalk.i64_in _ (by omega)
  by_cases hlen : 30 < len
  · have b0 : decide ((30 : Int) < len) = true := decide_eq_true (by omega)
    go_enter Try.func4, Try.ntmps4
    go_wp2_with (go_at_call 8; refine (let_any _).mono ?_; rintro e w2 ⟨rfl, hu⟩)
    go_ret
    exact ⟨rfl, u0.trans hu⟩
  have b0 : decide ((30 : Int) < len) = false := decide_eq_false (by omega)
  by_cases hfr : W0.fr = 0
  · have b1 : ((W0.fr : Int) == 0) = true := by rw [hfr]; rfl
    go_enter Try.func4, Try.ntmps4
    go_wp2_with (go_at_call 8; refine (let_any _).mono ?_; rintro e w2 ⟨rfl, hu⟩)
    go_ret
    exact ⟨rfl, u0.trans hu⟩
  have b1 : ((W0.fr : Int) == 0) = false := by rw [beq_eq_false_iff_ne]; omega
  have fr0 : ¬ (W0.fr : Int) = 0 := by omega
  by_cases htu : W0.tu < W0.fr
  · have b2 : decide ((W0.tu : Int) < W0.fr) = true := decide_eq_true (by omega)
    go_enter Try.func4, Try.ntmps4
    go_wp2_with (go_at_call 8; refine (let_any _).mono ?_; rintro e w2 ⟨rfl, hu⟩)
    go_ret
    exact ⟨rfl, u0.trans hu⟩
  have b2 : decide ((W0.tu : Int) < W0.fr) = false := decide_eq_false (by omega)
  have wI : IntKind.u32.wrap ((W0.ia : Int) + 1) = (((W0.ia + 1) % 4294967296 : Nat) : Int) := by
    rw [IntKind.wrap_u32]
    omega
  obtain ⟨i1, hi1⟩ : ∃ i1, i1 = (W0.ia + 1) % 4294967296 := ⟨_, rfl⟩
  rw [← hi1] at wI
  have HI1 := Lib.hid hi1
  clear hi1
  by_cases hbig : 11 < (W0.tu : Int) - W0.fr
  · have b3 : decide ((11 : Int) < (W0.tu : Int) - W0.fr) = true := decide_eq_true hbig
    have hw3 : IntKind.u16.wrap ((W0.fr : Int) + 11) = (W0.fr : Int) + 11 := IntWalk.u16_in _ (by omega)
    have hR3 : (w.alloc (.cells #[.int .u8 (W0.p : Nat), .int .u32 (W0.ia : Nat), .int .u16 (W0.ib : Nat), .int .u32 (W0.ip : Nat), .int .u16 (W0.fr : Nat), .int .u16 ((W0.fr : Int) + 11), .int .u16 (W0.dr : Nat)] 28)).rowIs w.heap.size 28 7 (wF ⟨W0.p, W0.ia, W0.ib, W0.ip, W0.fr, W0.fr + 11, W0.dr⟩) := new_ws w ⟨W0.p, W0.ia, W0.ib, W0.ip, W0.fr, W0.fr + 11, W0.dr⟩
    replace u0 := (Upto.refl NoS w).alloc (.cells #[.int .u8 (W0.p : Nat), .int .u32 (W0.ia : Nat), .int .u16 (W0.ib : Nat), .int .u32 (W0.ip : Nat), .int .u16 (W0.fr : Nat), .int .u16 ((W0.fr : Int) + 11), .int .u16 (W0.dr : Nat)] 28)
    go_enter Try.func4, Try.ntmps4
    go_wp2_with (go_at_call 9; refine (New_any _).mono ?_; rintro e w1 ⟨x, rb, ob, rfl, h1, u1, hx, hrb, hob⟩; have hR1 := u1.row hR3 (fun h => h.elim); obtain ⟨e0, e1, e2, e3, e4, e5, e6⟩ := ws_cells hR1; have hrb' := hrb; have hb1 := h1.rows.lt; have hb2 := h1.of_.lt; have hx1 := h1.lt; simp only [World.size_alloc] at hrb hob hx)
    obtain ⟨W, hWd⟩ : ∃ W : Ws, W = ⟨W0.p, W0.ia, W0.ib, W0.ip, W0.fr, W0.fr + 11, W0.dr⟩ := ⟨_, rfl⟩
    have hWk : W.Ok := by rw [hWd]; exact ⟨o1, o2, o3, o4, o5, (by show W0.fr + 11 < 65536; omega), o7⟩
    have hmay : W.may := by rw [hWd]; exact ⟨by show 1 ≤ W0.fr; omega, by show W0.fr ≤ W0.fr + 11; omega⟩
    have hn12 : W.tu < W.fr + 12 := by rw [hWd]; show W0.fr + 11 < W0.fr + 12; omega
    rw [← hWd] at hR1
    have hi1 := HI1.out
    rw [show W0.ia = W.ia by rw [hWd]] at hi1
    clear HI1
    have HI1 := Lib.hid hi1
    have hK0 : EvF (w1.alloc (.cells #[.int .u32 (i1 : Nat), .int .u16 0] 26)) w.heap.size w1.heap.size W 0 := by
      refine ⟨hR1.alloc _, ?_⟩
      have := row_ep w1 (i1 : Nat) 0
      rw [← hi1]
      exact this
    have hP0 := h1.alloc (.cells #[.int .u32 (i1 : Nat), .int .u16 0] 26)
    have hU0 := (u0.trans u1).alloc (.cells #[.int .u32 (i1 : Nat), .int .u16 0] 26)
    have hs0 : w1.heap.size + 1 ≤ (w1.alloc (.cells #[.int .u32 (i1 : Nat), .int .u16 0] 26)).heap.size := by simp
    have hO0 : Ot2 W 0 [] := ⟨by simp, by simp⟩
    have hwl : w.heap.size + 1 ≤ w1.heap.size := by have := u1.size; simpa using this
    have hi32 : i1 < 4294967296 := by rw [hi1]; exact Nat.mod_lt _ (by omega)
    clear hi1
    clear hR1 h1 u1 e0 e1 e2 e3 e4 e5 e6 hR0 d0 d1 d2 d3 d4 d5 d6 f5 b0 b1 b2 b3 wN wI hWd
    go_loopw [7] (fun v wr => ∃ (j h : Nat) (T : List (Rw × Nat)), j ≤ len ∧ v = .int .i64 j ∧ PsAt wr x rb ob T ∧ EvF wr w.heap.size w1.heap.size W h ∧ Ot2 W j T ∧ Upto NoS w wr ∧ w1.heap.size + 1 ≤ wr.heap.size) (fun v _ => len - (intOf v).toNat)
    case atStart => exact ⟨0, 0, [], by omega, rfl, hP0, hK0, hO0, hU0, hs0⟩
    case round =>
      clear hP0 hK0 hO0 hU0 hs0
      obtain ⟨j, h0, T, hj, rfl, hP, hK, hO, hU, hs⟩ := hrel
      have hx2 := hP.lt
      by_cases hlt : j < len
      · obtain ⟨hzj, bo, off, ha, hbo, hzc⟩ := hz j hlt
        replace hzc := hU.keep hzc id
        have hj30 : j ≤ 30 := by omega
        subst ha
        clear hz
        have uH := (Upto.refl (fun i => i = w1.heap.size) wr).setB (b := w1.heap.size) (o := 1) rfl (.int .u16 (j : Nat))
        have hP2 := hP.gen uH (fun i hi hs => by
          have hi : i = w1.heap.size := hi
          have n1 := hP.rows.ne_row hK.hd
          have n2 := hP.of_.ne_row hK.hd
          rcases hs with e1 | e1 | e1 | ⟨r, hr, e1⟩
          · omega
          · omega
          · omega
          · obtain ⟨A, hA, _⟩ := hK.hd
            obtain ⟨A2, hA2, _⟩ := hP.blk r hr
            rw [e1, hi, hA] at hA2
            simp at hA2)
        have hK2 := hK.set (show w.heap.size ≠ w1.heap.size by omega) j
        have hU2 := hU.trans' uH (fun i hi (e : i = w1.heap.size) => by omega)
        have hzc2 := uH.keep hzc (fun (e : bo = w1.heap.size) => by omega)
        have hs2 : w1.heap.size + 1 ≤ (wr.setCell ⟨w1.heap.size, 1, none⟩ (.int .u16 (j : Nat))).heap.size := by simp; omega
        obtain ⟨m0, m1⟩ := ep2 hK.hd
        have mf := hK.hd.frozen 1
        have wj : IntKind.u16.wrap (j : Nat) = (j : Nat) := IntWalk.u16_in _ (by omega)
        have yj : decide ((j : Int) < (len : Int)) = true := decide_eq_true (by omega)
        go_upto_region 11 with (fail)
        generalize hWs : wr.setCell ⟨w1.heap.size, 1, none⟩ (.int .u16 (j : Nat)) = Ws1 at hP2 hK2 hU2 hzc2 hs2 ⊢
        clear hP hK hU hzc m0 m1 mf uH hWs
        have hI := hO.noI
        have hTm := hO.many
        rw [← HI1.out] at hI
        obtain ⟨d0, d1, d2, d3, d4, d5, d6⟩ := ws_cells hK2.wr
        obtain ⟨m0, m1⟩ := ep2 hK2.hd
        rw [← HI1.out] at m0
        have hnp := n_pos W
        have eN : (W.tu : Int) - W.fr + 1 = (W.n : Int) := by unfold Ws.n; have := hmay.2; omega
        have hnl : W.n ≤ 12 := by unfold Ws.n; omega
        have hq : z j % W.n < W.n := Nat.mod_lt _ hnp
        have hfn : W.fr + W.n = W.tu + 1 := by unfold Ws.n; have := hmay.2; omega
        have ht16 := hWk.tu
        have hr16 := hWk.fr
        have g1 : IntKind.u16.wrap ((z j : Nat) : Int) = ((z j : Nat) : Int) := IntWalk.u16_in _ (by omega)
        have g2 : IntKind.u16.wrap ((W.tu : Int) - W.fr) = (W.tu : Int) - W.fr := IntWalk.u16_in _ (by have := hmay.2; omega)
        have g3 : IntKind.u16.wrap (W.n : Int) = (W.n : Int) := IntWalk.u16_in _ (by omega)
        have ex : ((z j : Nat) : Int).tmod (W.n : Int) = ((z j % W.n : Nat) : Int) := by rw [Int.tmod_eq_emod_of_nonneg (by omega)]; push_cast; rfl
        obtain ⟨q, hqd⟩ : ∃ q, q = W.fr + z j % W.n := ⟨_, rfl⟩
        have hqn : W.fr ≤ q ∧ q ≤ W.tu := by omega
        have hql : q < 65536 := by omega
        have g4 : IntKind.u16.wrap ((z j % W.n : Nat) : Int) = ((z j % W.n : Nat) : Int) := IntWalk.u16_in _ (by omega)
        have g5 : (W.fr : Int) + ((z j % W.n : Nat) : Int) = (q : Nat) := by omega
        have g6 : IntKind.u16.wrap ((q : Nat) : Int) = ((q : Nat) : Int) := IntWalk.u16_in _ (by omega)
        have y0 : (0 : Int) ≤ (j : Int) := by omega
        have y1 : (j : Int) < (len : Int) := by omega
        have y4 : ((W.n : Int) == 0) = false := by rw [beq_eq_false_iff_ne]; omega
        have y5 : ¬ ((W.n : Nat) : Int) = 0 := by omega
        have y6 : ¬ W.n = 0 := by omega
        generalize hLd : W.n = L at eN hnp hnl hq hfn g3 ex hqd g4 g5 y4 y5 y6
        clear hLd
        generalize hqi : z j % L = qi at hq ex hqd g4 g5
        clear hqi hqd
        have HO := Lib.hid hO
        clear hO
        have dd : (Ws1.drew).cell? ⟨w.heap.size, 0, none⟩ = some (.int .u8 (W.p : Nat)) ∧ (Ws1.drew).cell? ⟨w.heap.size, 3, none⟩ = some (.int .u32 (W.ip : Nat)) ∧ (Ws1.drew).cell? ⟨w.heap.size, 4, none⟩ = some (.int .u16 (W.fr : Nat)) ∧ (Ws1.drew).cell? ⟨w.heap.size, 5, none⟩ = some (.int .u16 (W.tu : Nat)) ∧ (Ws1.drew).cell? ⟨w1.heap.size, 0, none⟩ = some (.int .u32 (i1 : Nat)) ∧ (Ws1.drew).cell? ⟨w1.heap.size, 1, none⟩ = some (.int .u16 (j : Nat)) ∧ (Ws1.drew).cell? ⟨bo, off + j, none⟩ = some (.int .u8 (z j : Nat)) := ⟨d0, d3, d4, d5, m0, m1, hzc2⟩
        cases hf : fO T W.p W.ip q with
        | some r =>
          have HF := Lib.hid hf
          clear hf
          go_region_held3 (fun w' => w'.cell? ⟨w.heap.size, 0, none⟩ = some (.int .u8 (W.p : Nat)) ∧ w'.cell? ⟨w.heap.size, 3, none⟩ = some (.int .u32 (W.ip : Nat)) ∧ w'.cell? ⟨w.heap.size, 4, none⟩ = some (.int .u16 (W.fr : Nat)) ∧ w'.cell? ⟨w.heap.size, 5, none⟩ = some (.int .u16 (W.tu : Nat)) ∧ w'.cell? ⟨w1.heap.size, 0, none⟩ = some (.int .u32 (i1 : Nat)) ∧ w'.cell? ⟨w1.heap.size, 1, none⟩ = some (.int .u16 (j : Nat)) ∧ w'.cell? ⟨bo, off + j, none⟩ = some (.int .u8 (z j : Nat)))
            (with_reducible first | exact dd | exact ds)
            (first | (go_at_call 13; refine (Fix_busy _ x rb ob T W.p _ j W.ip q r hP2.drew hWk.p hi32 (by omega) hWk.ip hql hI HF.out).mono ?_; rintro e w3 ⟨rfl, hu3⟩; have ds : w3.cell? ⟨w.heap.size, 0, none⟩ = some (.int .u8 (W.p : Nat)) ∧ w3.cell? ⟨w.heap.size, 3, none⟩ = some (.int .u32 (W.ip : Nat)) ∧ w3.cell? ⟨w.heap.size, 4, none⟩ = some (.int .u16 (W.fr : Nat)) ∧ w3.cell? ⟨w.heap.size, 5, none⟩ = some (.int .u16 (W.tu : Nat)) ∧ w3.cell? ⟨w1.heap.size, 0, none⟩ = some (.int .u32 (i1 : Nat)) ∧ w3.cell? ⟨w1.heap.size, 1, none⟩ = some (.int .u16 (j : Nat)) ∧ w3.cell? ⟨bo, off + j, none⟩ = some (.int .u8 (z j : Nat)) := ⟨hu3.keep dd.1 id, hu3.keep dd.2.1 id, hu3.keep dd.2.2.1 id, hu3.keep dd.2.2.2.1 id, hu3.keep dd.2.2.2.2.1 id, hu3.keep dd.2.2.2.2.2.1 id, hu3.keep dd.2.2.2.2.2.2 id⟩))
          have hud := (Upto.refl NoS Ws1).drew.trans hu3
          go_wp2_with fail
          go_roundw
          case rel => first | exact ⟨j + 1, j, T, by omega, by go_num, hP2.upto hud, hK2.no hud, HO.out.next, hU2.trans hud, Nat.le_trans hs2 hud.size⟩ | ((repeat apply Exists.intro); refine ⟨?_, rfl⟩; exact ⟨j + 1, j, T, by omega, by go_num, hP2.upto hud, hK2.no hud, HO.out.next, hU2.trans hud, Nat.le_trans hs2 hud.size⟩)
          case measure => simp [intOf]; omega
        | none =>
          have HF := Lib.hid hf
          clear hf
          go_region_held3 (fun w' => w'.cell? ⟨w.heap.size, 0, none⟩ = some (.int .u8 (W.p : Nat)) ∧ w'.cell? ⟨w.heap.size, 3, none⟩ = some (.int .u32 (W.ip : Nat)) ∧ w'.cell? ⟨w.heap.size, 4, none⟩ = some (.int .u16 (W.fr : Nat)) ∧ w'.cell? ⟨w.heap.size, 5, none⟩ = some (.int .u16 (W.tu : Nat)) ∧ w'.cell? ⟨w1.heap.size, 0, none⟩ = some (.int .u32 (i1 : Nat)) ∧ w'.cell? ⟨w1.heap.size, 1, none⟩ = some (.int .u16 (j : Nat)) ∧ w'.cell? ⟨bo, off + j, none⟩ = some (.int .u8 (z j : Nat)))
            (with_reducible first | exact dd | exact ds)
            (first | (go_at_call 13; refine (Fix_new _ x rb ob T W.p _ j W.ip q hP2.drew hWk.p hi32 (by omega) hWk.ip hql hI HF.out (by omega)).mono ?_; rintro e w3 ⟨rfl, k3, hk3, hP3, hu3⟩; have ds : w3.cell? ⟨w.heap.size, 0, none⟩ = some (.int .u8 (W.p : Nat)) ∧ w3.cell? ⟨w.heap.size, 3, none⟩ = some (.int .u32 (W.ip : Nat)) ∧ w3.cell? ⟨w.heap.size, 4, none⟩ = some (.int .u16 (W.fr : Nat)) ∧ w3.cell? ⟨w.heap.size, 5, none⟩ = some (.int .u16 (W.tu : Nat)) ∧ w3.cell? ⟨w1.heap.size, 0, none⟩ = some (.int .u32 (i1 : Nat)) ∧ w3.cell? ⟨w1.heap.size, 1, none⟩ = some (.int .u16 (j : Nat)) ∧ w3.cell? ⟨bo, off + j, none⟩ = some (.int .u8 (z j : Nat)) := ⟨hu3.keep dd.1 (fun (e : w.heap.size = rb ∨ w.heap.size = ob) => by omega), hu3.keep dd.2.1 (fun (e : w.heap.size = rb ∨ w.heap.size = ob) => by omega), hu3.keep dd.2.2.1 (fun (e : w.heap.size = rb ∨ w.heap.size = ob) => by omega), hu3.keep dd.2.2.2.1 (fun (e : w.heap.size = rb ∨ w.heap.size = ob) => by omega), hu3.keep dd.2.2.2.2.1 (fun (e : w1.heap.size = rb ∨ w1.heap.size = ob) => by omega), hu3.keep dd.2.2.2.2.2.1 (fun (e : w1.heap.size = rb ∨ w1.heap.size = ob) => by omega), hu3.keep dd.2.2.2.2.2.2 (fun (e : bo = rb ∨ bo = ob) => by omega)⟩))
          have hud := ((Upto.refl NoS Ws1).drew.mono (T := fun i => i = rb ∨ i = ob) (fun _ _ h => h.elim)).trans hu3
          have hK3 := hK2.upto hud (fun i (hi : i = rb ∨ i = ob) => by omega)
          have hO3 := HO.out.add q k3
          rw [← HI1.out] at hO3
          have HO3 := Lib.hid hO3
          clear hO3
          go_wp2_with fail
          go_roundw
          case rel => first | exact ⟨j + 1, j, _, by omega, by go_num, hP3, hK3, HO3.out, hU2.trans' hud (fun i hi (e : i = rb ∨ i = ob) => by omega), Nat.le_trans hs2 hud.size⟩ | ((repeat apply Exists.intro); refine ⟨?_, rfl⟩; exact ⟨j + 1, j, _, by omega, by go_num, hP3, hK3, HO3.out, hU2.trans' hud (fun i hi (e : i = rb ∨ i = ob) => by omega), Nat.le_trans hs2 hud.size⟩)
          case measure => simp [intOf]; omega
      · obtain rfl : j = len := by omega
        have yj : decide ((j : Int) < (j : Int)) = false := decide_eq_false (by omega)
        have hOwn := hO.own hWk
        have hTm := hO.many
        clear hz hO
        replace hK : wr.rowIs w.heap.size 28 7 (wF W) := hK.wr
        obtain ⟨d0, d1, d2, d3, d4, d5, d6⟩ := ws_cells hK
        have ht16 := hWk.tu
        have hr16 := hWk.fr
        have v0 : IntKind.i64.wrap (W.fr : Nat) = (W.fr : Nat) := IntWalk.i64_in _ (by omega)
        have v1 : IntKind.i64.wrap (W.tu : Nat) = (W.tu : Nat) := IntWalk.i64_in _ (by omega)
        have v2 : IntKind.i64.wrap (W.ib : Nat) = (W.ib : Nat) := IntWalk.i64_in _ (by have := hWk.ib; omega)
        go_wp2_with fail
        go_loopw [8, 9, 10, 11] (fun vf ve vo vn w5 => ∃ k : Nat, W.fr + k ≤ W.tu + 1 ∧ vn = .int .i64 (W.fr + k : Nat) ∧ vf = .int .i64 (cnt W.fr (freeT T W) k : Nat) ∧ ve = .int .i64 (cnt W.fr (fun n => freeT T W n && parT W n) k : Nat) ∧ vo = .bool (anyB W.fr (fun n => freeT T W n && n == W.ib) k) ∧ PsAt w5 x rb ob T ∧ w5.rowIs w.heap.size 28 7 (wF W) ∧ Upto NoS w w5) (fun _ _ _ vn _ => W.tu + 1 - (intOf vn).toNat)
        case atStart => exact ⟨0, by have := hmay.2; omega, rfl, rfl, rfl, rfl, hP, hK, hU⟩
        case round =>
          clear hP hK hU d0 d1 d2 d3 d4 d5 d6 hs hx2
          obtain ⟨k, hk, rfl, rfl, rfl, rfl, hP, hK, hU⟩ := hrel
          obtain ⟨d0, d1, d2, d3, d4, d5, d6⟩ := ws_cells hK
          have hkl : k ≤ 12 := by omega
          have cF := cnt_le W.fr (freeT T W) k
          have cE := cnt_le W.fr (fun n => freeT T W n && parT W n) k
          by_cases hin : W.fr + k ≤ W.tu
          · have bn : decide (((W.fr + k : Nat) : Int) ≤ (W.tu : Int)) = true := decide_eq_true (by omega)
            obtain ⟨F, hF⟩ : ∃ F, F = cnt W.fr (freeT T W) k := ⟨_, rfl⟩
            obtain ⟨E, hE⟩ : ∃ E, E = cnt W.fr (fun n => freeT T W n && parT W n) k := ⟨_, rfl⟩
            obtain ⟨O, hO⟩ : ∃ O, O = anyB W.fr (fun n => freeT T W n && n == W.ib) k := ⟨_, rfl⟩
            rw [← hF, ← hE, ← hO]
            rw [← hF] at cF
            rw [← hE] at cE
            have HF := Lib.hid hF
            have HE := Lib.hid hE
            have HO := Lib.hid hO
            clear hF hE hO
            obtain ⟨n, hn⟩ : ∃ n, n = W.fr + k := ⟨_, rfl⟩
            rw [← hn] at bn hin ⊢
            have HN := Lib.hid hn
            have hnn : n < 65536 := by omega
            have HN1 := Lib.hid (show n + 1 = W.fr + (k + 1) by omega)
            have hmeas : W.tu + 1 - (n + 1) < W.tu + 1 - n := by omega
            clear hn
            have t0 : IntKind.u16.wrap (n : Nat) = (n : Nat) := IntWalk.u16_in _ (by omega)
            have t1 : IntKind.i64.wrap ((n : Int) + 1) = ((n + 1 : Nat) : Int) := IntWalk.i64_in _ (by omega)
            have t2 : IntKind.i64.wrap ((F : Int) + 1) = ((F + 1 : Nat) : Int) := IntWalk.i64_in _ (by omega)
            have t3 : IntKind.i64.wrap ((E : Int) + 1) = ((E + 1 : Nat) : Int) := IntWalk.i64_in _ (by omega)
            have hb5 := hK.lt
            cases hf : fO T W.p W.ip n with
            | some r =>
              have hFr : freeT T W n = false := by unfold freeT; rw [hf]; rfl
              have HR := Lib.hid hf
              have HFR := Lib.hid hFr
              clear hf hFr
              go_wp2_with (first
                | (go_at_call 15; refine (Owner_some _ x rb ob T W.p W.ip n r hP hWk.p hWk.ip hnn HR.out).mono ?_; rintro e w6 ⟨rfl, hu6⟩; replace hP := (hP.upto hu6).alloc (.cells #[.int .u8 (r.1.p : Nat), .int .u32 (r.1.oa : Nat), .int .u16 (r.1.ob : Nat), .int .u32 (r.1.ia : Nat), .int .u16 (r.1.ib : Nat), .int .i64 (r.1.live : Nat), .int .i64 (r.1.held : Nat)] 42); replace hK := (hu6.row hK (fun h => h.elim)).alloc (.cells #[.int .u8 (r.1.p : Nat), .int .u32 (r.1.oa : Nat), .int .u16 (r.1.ob : Nat), .int .u32 (r.1.ia : Nat), .int .u16 (r.1.ib : Nat), .int .i64 (r.1.live : Nat), .int .i64 (r.1.held : Nat)] 42); replace hU := (hU.trans hu6).alloc (.cells #[.int .u8 (r.1.p : Nat), .int .u32 (r.1.oa : Nat), .int .u16 (r.1.ob : Nat), .int .u32 (r.1.ia : Nat), .int .u16 (r.1.ib : Nat), .int .i64 (r.1.live : Nat), .int .i64 (r.1.held : Nat)] 42); clear hu6 d0 d1 d2 d3 d4 d5 d6; obtain ⟨d0, d1, d2, d3, d4, d5, d6⟩ := ws_cells hK))
              go_roundw
              case rel => exact ⟨k + 1, by have := HN1.out; omega, by first | (rw [← HN1.out]; go_num) | (rw [← HN1.out]; rfl), by rw [show cnt W.fr (freeT T W) (k + 1) = cnt W.fr (freeT T W) k + (if (freeT T W) (W.fr + k) = true then 1 else 0) from rfl, ← HF.out, ← HN.out]; simp [HFR.out], by rw [show cnt W.fr (fun n => freeT T W n && parT W n) (k + 1) = cnt W.fr (fun n => freeT T W n && parT W n) k + (if (fun n => freeT T W n && parT W n) (W.fr + k) = true then 1 else 0) from rfl, ← HE.out, ← HN.out]; simp [HFR.out], by rw [show anyB W.fr (fun n => freeT T W n && n == W.ib) (k + 1) = (anyB W.fr (fun n => freeT T W n && n == W.ib) k || (fun n => freeT T W n && n == W.ib) (W.fr + k)) from rfl, ← HO.out, ← HN.out]; simp [HFR.out], hP, hK, hU⟩
              case measure => simp [intOf]; omega
            | none =>
              have hFr : freeT T W n = true := by unfold freeT; rw [hf]; rfl
              have HR := Lib.hid hf
              have HFR := Lib.hid hFr
              clear hf hFr
              have hpe := par_eq n W.ib
              have hown : ((n : Int) == (W.ib : Int)) = (n == W.ib) := by
                by_cases h : n = W.ib
                · rw [h]; simp
                · rw [beq_eq_false_iff_ne.2 h, beq_eq_false_iff_ne.2 (by omega)]
              cases hO2 : (n == W.ib)
              all_goals
                cases O
                all_goals
                  rw [hO2] at hown
                  cases hpp : (n % 2 == W.ib % 2)
                  all_goals
                    rw [hpp] at hpe
                    replace hpe := hpe.symm
                    have HO2 := Lib.hid hO2
                    have HPP := Lib.hid (show parT W n = _ from hpp)
                    clear hpp
                    go_wp2_with (first
                      | (go_at_call 15; refine (Owner_no _ x rb ob T W.p W.ip n hP hWk.p hWk.ip hnn HR.out).mono ?_; rintro e w6 ⟨rfl, hu6⟩; replace hP := (hP.upto hu6).alloc (.cells #[.int .u8 (rw0.p : Nat), .int .u32 (rw0.oa : Nat), .int .u16 (rw0.ob : Nat), .int .u32 (rw0.ia : Nat), .int .u16 (rw0.ib : Nat), .int .i64 (rw0.live : Nat), .int .i64 (rw0.held : Nat)] 42); replace hK := (hu6.row hK (fun h => h.elim)).alloc (.cells #[.int .u8 (rw0.p : Nat), .int .u32 (rw0.oa : Nat), .int .u16 (rw0.ob : Nat), .int .u32 (rw0.ia : Nat), .int .u16 (rw0.ib : Nat), .int .i64 (rw0.live : Nat), .int .i64 (rw0.held : Nat)] 42); replace hU := (hU.trans hu6).alloc (.cells #[.int .u8 (rw0.p : Nat), .int .u32 (rw0.oa : Nat), .int .u16 (rw0.ob : Nat), .int .u32 (rw0.ia : Nat), .int .u16 (rw0.ib : Nat), .int .i64 (rw0.live : Nat), .int .i64 (rw0.held : Nat)] 42); clear hu6 d0 d1 d2 d3 d4 d5 d6; obtain ⟨d0, d1, d2, d3, d4, d5, d6⟩ := ws_cells hK))
                    go_roundw
                    case rel => exact ⟨k + 1, by have := HN1.out; omega, by first | (rw [← HN1.out]; go_num) | (rw [← HN1.out]; rfl), by rw [show cnt W.fr (freeT T W) (k + 1) = cnt W.fr (freeT T W) k + (if (freeT T W) (W.fr + k) = true then 1 else 0) from rfl, ← HF.out, ← HN.out]; simp [HFR.out], by rw [show cnt W.fr (fun n => freeT T W n && parT W n) (k + 1) = cnt W.fr (fun n => freeT T W n && parT W n) k + (if (fun n => freeT T W n && parT W n) (W.fr + k) = true then 1 else 0) from rfl, ← HE.out, ← HN.out]; simp [HFR.out, HPP.out], by rw [show anyB W.fr (fun n => freeT T W n && n == W.ib) (k + 1) = (anyB W.fr (fun n => freeT T W n && n == W.ib) k || (fun n => freeT T W n && n == W.ib) (W.fr + k)) from rfl, ← HO.out, ← HN.out]; simp [HFR.out, HO2.out], hP, hK, hU⟩
                    case measure => simp [intOf]; omega
          · have bn : decide (((W.fr + k : Nat) : Int) ≤ (W.tu : Int)) = false := decide_eq_false (by omega)
            have hkk : W.fr + k = W.tu + 1 := by omega
            obtain ⟨F, hF⟩ : ∃ F, F = cnt W.fr (freeT T W) k := ⟨_, rfl⟩
            obtain ⟨E, hE⟩ : ∃ E, E = cnt W.fr (fun n => freeT T W n && parT W n) k := ⟨_, rfl⟩
            obtain ⟨O, hO⟩ : ∃ O, O = anyB W.fr (fun n => freeT T W n && n == W.ib) k := ⟨_, rfl⟩
            rw [← hF, ← hE, ← hO]
            by_cases hF0 : F = 0
            · have hall := (cnt_zero _ _ _).1 (hF.symm.trans hF0)
              have hpk : pickR (T.map Prod.fst) W = none := by
                rw [pickR_T]
                exact pick_none W hmay _ (fun n h1 h2 => by have := hall (n - W.fr) (by omega); rwa [show W.fr + (n - W.fr) = n by omega] at this)
              subst hF0
              have HPK := Lib.hid hpk
              clear hF hE hO hall hpk
              go_wp2_with fail
              refine (Take_full _ x rb ob T W hP hWk hmay hOwn (by omega) HPK.out).mono ?_
              rintro e wa ⟨rfl, _, hua⟩
              replace hU := (hU.trans hua).alloc (.cells #[.int .u32 0, .int .u16 0] 26)
              go_wp2_with (go_at_call 8; refine (let_any _).mono ?_; rintro e w9 ⟨rfl, hu9⟩)
              go_ret
              exact ⟨rfl, hU.trans hu9⟩
            · obtain ⟨n, hn1, hn2, hnf⟩ : ∃ n, W.fr ≤ n ∧ n ≤ W.tu ∧ freeT T W n = true := by
                refine Classical.byContradiction fun hc => hF0 ?_
                rw [hF]
                refine (cnt_zero _ _ _).2 fun i hi => ?_
                cases hv : freeT T W (W.fr + i)
                · rfl
                · exact absurd ⟨_, by omega, by omega, hv⟩ hc
              obtain ⟨q, hq, hq16, hqo, hqe⟩ := pick_law W hWk hmay (freeT T W) hn1 hn2 hnf
              rw [← pickR_T] at hq
              have hO2 : O = true → ((q : Int) == (W.ib : Int)) = true := by
                intro h
                obtain ⟨i, hi, hf⟩ := anyB_true _ _ _ (hO.symm.trans h)
                have hf' : (freeT T W (W.fr + i) && W.fr + i == W.ib) = true := hf
                rw [Bool.and_eq_true_iff] at hf'
                have he : W.fr + i = W.ib := eq_of_beq hf'.2
                rw [hqo (by omega) (by omega) (by rw [← he]; exact hf'.1)]
                simp
              have hE2 : E ≠ 0 → ((q : Int) % 2 == (W.ib : Int) % 2) = true := by
                intro h
                have : ∃ m, W.fr ≤ m ∧ m ≤ W.tu ∧ freeT T W m = true ∧ m % 2 = W.ib % 2 := by
                  refine Classical.byContradiction fun hc => h ?_
                  rw [hE]
                  refine (cnt_zero _ _ _).2 fun i hi => ?_
                  cases hv : (freeT T W (W.fr + i) && parT W (W.fr + i))
                  · rfl
                  · rw [Bool.and_eq_true_iff] at hv
                    exact absurd ⟨_, by omega, by omega, hv.1, eq_of_beq hv.2⟩ hc
                rw [← par_eq, hqe this]
                simp
              have bF : ((F : Int) == 0) = false := by rw [beq_eq_false_iff_ne]; omega
              have HQ := Lib.hid hq
              clear hF hE hO hq hqo hqe hnf
              have e1 : IntKind.u16.wrap ((q : Int) % 2) = (q : Int) % 2 := IntWalk.u16_in _ (by omega)
              have e2 : IntKind.u16.wrap ((W.ib : Int) % 2) = (W.ib : Int) % 2 := IntWalk.u16_in _ (by omega)
              by_cases hE0 : E = 0
              all_goals
                cases O
                all_goals
                  first | (have hE3 := hE2 hE0; have bE : ((E : Int) == 0) = false := by rw [beq_eq_false_iff_ne]; omega) | subst hE0
                  (try have hO3 := hO2 rfl)
                  clear hO2 hE2
                  go_wp2_with fail
                  refine (Take_pick _ x rb ob T W q hP hWk hmay hOwn (by omega) HQ.out).mono ?_
                  rintro e wa ⟨rfl, k9, hk9, hP9, hua⟩
                  replace hK := (hua.row hK (fun (hi : w.heap.size = rb ∨ w.heap.size = ob) => by omega)).alloc (.cells #[.int .u32 (W.ip : Nat), .int .u16 (q : Nat)] 26)
                  replace hU := (hU.trans' hua (fun i hi (e : i = rb ∨ i = ob) => by omega)).alloc (.cells #[.int .u32 (W.ip : Nat), .int .u16 (q : Nat)] 26)
                  obtain ⟨r0, r1⟩ := ep2 (row_ep wa (W.ip : Nat) (q : Nat))
                  clear hP hP9 hua d0 d1 d2 d3 d4 d5 d6
                  obtain ⟨d0, d1, d2, d3, d4, d5, d6⟩ := ws_cells hK
                  go_wp2_with (go_at_call 8; refine (let_any _).mono ?_; rintro e w9 ⟨rfl, hu9⟩)
                  go_ret
                  exact ⟨rfl, hU.trans hu9⟩
  · have b3 : decide ((11 : Int) < (W0.tu : Int) - W0.fr) = false := decide_eq_false hbig
    go_enter Try.func4, Try.ntmps4
    go_wp2_with (go_at_call 9; refine (New_any _).mono ?_; rintro e w1 ⟨x, rb, ob, rfl, h1, u1, hx, hrb, hob⟩; have hR1 := u1.row hR0 (fun h => h.elim); obtain ⟨e0, e1, e2, e3, e4, e5, e6⟩ := ws_cells hR1; have hrb' := hrb; have hb1 := h1.rows.lt; have hb2 := h1.of_.lt; have hx1 := h1.lt; simp only [World.size_alloc] at hrb hob hx)
    obtain ⟨W, hWd⟩ : ∃ W : Ws, W = W0 := ⟨_, rfl⟩
    have hWk : W.Ok := by rw [hWd]; exact ⟨o1, o2, o3, o4, o5, o6, o7⟩
    have hmay : W.may := by rw [hWd]; exact ⟨by show 1 ≤ W0.fr; omega, by omega⟩
    have hn12 : W.tu < W.fr + 12 := by rw [hWd]; omega
    rw [← hWd] at hR1
    have hi1 := HI1.out
    rw [show W0.ia = W.ia by rw [hWd]] at hi1
    clear HI1
    have HI1 := Lib.hid hi1
    have hK0 : EvF (w1.alloc (.cells #[.int .u32 (i1 : Nat), .int .u16 0] 26)) w.heap.size w1.heap.size W 0 := by
      refine ⟨hR1.alloc _, ?_⟩
      have := row_ep w1 (i1 : Nat) 0
      rw [← hi1]
      exact this
    have hP0 := h1.alloc (.cells #[.int .u32 (i1 : Nat), .int .u16 0] 26)
    have hU0 := (u0.trans u1).alloc (.cells #[.int .u32 (i1 : Nat), .int .u16 0] 26)
    have hs0 : w1.heap.size + 1 ≤ (w1.alloc (.cells #[.int .u32 (i1 : Nat), .int .u16 0] 26)).heap.size := by simp
    have hO0 : Ot2 W 0 [] := ⟨by simp, by simp⟩
    have hwl : w.heap.size + 1 ≤ w1.heap.size := by have := u1.size; simpa using this
    have hi32 : i1 < 4294967296 := by rw [hi1]; exact Nat.mod_lt _ (by omega)
    clear hi1
    clear hR1 h1 u1 e0 e1 e2 e3 e4 e5 e6 hR0 d0 d1 d2 d3 d4 d5 d6 f5 b0 b1 b2 b3 wN wI hWd
    go_loopw [7] (fun v wr => ∃ (j h : Nat) (T : List (Rw × Nat)), j ≤ len ∧ v = .int .i64 j ∧ PsAt wr x rb ob T ∧ EvF wr w.heap.size w1.heap.size W h ∧ Ot2 W j T ∧ Upto NoS w wr ∧ w1.heap.size + 1 ≤ wr.heap.size) (fun v _ => len - (intOf v).toNat)
    case atStart => exact ⟨0, 0, [], by omega, rfl, hP0, hK0, hO0, hU0, hs0⟩
    case round =>
      clear hP0 hK0 hO0 hU0 hs0
      obtain ⟨j, h0, T, hj, rfl, hP, hK, hO, hU, hs⟩ := hrel
      have hx2 := hP.lt
      by_cases hlt : j < len
      · obtain ⟨hzj, bo, off, ha, hbo, hzc⟩ := hz j hlt
        replace hzc := hU.keep hzc id
        have hj30 : j ≤ 30 := by omega
        subst ha
        clear hz
        have uH := (Upto.refl (fun i => i = w1.heap.size) wr).setB (b := w1.heap.size) (o := 1) rfl (.int .u16 (j : Nat))
        have hP2 := hP.gen uH (fun i hi hs => by
          have hi : i = w1.heap.size := hi
          have n1 := hP.rows.ne_row hK.hd
          have n2 := hP.of_.ne_row hK.hd
          rcases hs with e1 | e1 | e1 | ⟨r, hr, e1⟩
          · omega
          · omega
          · omega
          · obtain ⟨A, hA, _⟩ := hK.hd
            obtain ⟨A2, hA2, _⟩ := hP.blk r hr
            rw [e1, hi, hA] at hA2
            simp at hA2)
        have hK2 := hK.set (show w.heap.size ≠ w1.heap.size by omega) j
        have hU2 := hU.trans' uH (fun i hi (e : i = w1.heap.size) => by omega)
        have hzc2 := uH.keep hzc (fun (e : bo = w1.heap.size) => by omega)
        have hs2 : w1.heap.size + 1 ≤ (wr.setCell ⟨w1.heap.size, 1, none⟩ (.int .u16 (j : Nat))).heap.size := by simp; omega
        obtain ⟨m0, m1⟩ := ep2 hK.hd
        have mf := hK.hd.frozen 1
        have wj : IntKind.u16.wrap (j : Nat) = (j : Nat) := IntWalk.u16_in _ (by omega)
        have yj : decide ((j : Int) < (len : Int)) = true := decide_eq_true (by omega)
        go_upto_region 11 with (fail)
        generalize hWs : wr.setCell ⟨w1.heap.size, 1, none⟩ (.int .u16 (j : Nat)) = Ws1 at hP2 hK2 hU2 hzc2 hs2 ⊢
        clear hP hK hU hzc m0 m1 mf uH hWs
        have hI := hO.noI
        have hTm := hO.many
        rw [← HI1.out] at hI
        obtain ⟨d0, d1, d2, d3, d4, d5, d6⟩ := ws_cells hK2.wr
        obtain ⟨m0, m1⟩ := ep2 hK2.hd
        rw [← HI1.out] at m0
        have hnp := n_pos W
        have eN : (W.tu : Int) - W.fr + 1 = (W.n : Int) := by unfold Ws.n; have := hmay.2; omega
        have hnl : W.n ≤ 12 := by unfold Ws.n; omega
        have hq : z j % W.n < W.n := Nat.mod_lt _ hnp
        have hfn : W.fr + W.n = W.tu + 1 := by unfold Ws.n; have := hmay.2; omega
        have ht16 := hWk.tu
        have hr16 := hWk.fr
        have g1 : IntKind.u16.wrap ((z j : Nat) : Int) = ((z j : Nat) : Int) := IntWalk.u16_in _ (by omega)
        have g2 : IntKind.u16.wrap ((W.tu : Int) - W.fr) = (W.tu : Int) - W.fr := IntWalk.u16_in _ (by have := hmay.2; omega)
        have g3 : IntKind.u16.wrap (W.n : Int) = (W.n : Int) := IntWalk.u16_in _ (by omega)
        have ex : ((z j : Nat) : Int).tmod (W.n : Int) = ((z j % W.n : Nat) : Int) := by rw [Int.tmod_eq_emod_of_nonneg (by omega)]; push_cast; rfl
        obtain ⟨q, hqd⟩ : ∃ q, q = W.fr + z j % W.n := ⟨_, rfl⟩
        have hqn : W.fr ≤ q ∧ q ≤ W.tu := by omega
        have hql : q < 65536 := by omega
        have g4 : IntKind.u16.wrap ((z j % W.n : Nat) : Int) = ((z j % W.n : Nat) : Int) := IntWalk.u16_in _ (by omega)
        have g5 : (W.fr : Int) + ((z j % W.n : Nat) : Int) = (q : Nat) := by omega
        have g6 : IntKind.u16.wrap ((q : Nat) : Int) = ((q : Nat) : Int) := IntWalk.u16_in _ (by omega)
        have y0 : (0 : Int) ≤ (j : Int) := by omega
        have y1 : (j : Int) < (len : Int) := by omega
        have y4 : ((W.n : Int) == 0) = false := by rw [beq_eq_false_iff_ne]; omega
        have y5 : ¬ ((W.n : Nat) : Int) = 0 := by omega
        have y6 : ¬ W.n = 0 := by omega
        generalize hLd : W.n = L at eN hnp hnl hq hfn g3 ex hqd g4 g5 y4 y5 y6
        clear hLd
        generalize hqi : z j % L = qi at hq ex hqd g4 g5
        clear hqi hqd
        have HO := Lib.hid hO
        clear hO
        have dd : (Ws1.drew).cell? ⟨w.heap.size, 0, none⟩ = some (.int .u8 (W.p : Nat)) ∧ (Ws1.drew).cell? ⟨w.heap.size, 3, none⟩ = some (.int .u32 (W.ip : Nat)) ∧ (Ws1.drew).cell? ⟨w.heap.size, 4, none⟩ = some (.int .u16 (W.fr : Nat)) ∧ (Ws1.drew).cell? ⟨w.heap.size, 5, none⟩ = some (.int .u16 (W.tu : Nat)) ∧ (Ws1.drew).cell? ⟨w1.heap.size, 0, none⟩ = some (.int .u32 (i1 : Nat)) ∧ (Ws1.drew).cell? ⟨w1.heap.size, 1, none⟩ = some (.int .u16 (j : Nat)) ∧ (Ws1.drew).cell? ⟨bo, off + j, none⟩ = some (.int .u8 (z j : Nat)) := ⟨d0, d3, d4, d5, m0, m1, hzc2⟩
        cases hf : fO T W.p W.ip q with
        | some r =>
          have HF := Lib.hid hf
          clear hf
          go_region_held3 (fun w' => w'.cell? ⟨w.heap.size, 0, none⟩ = some (.int .u8 (W.p : Nat)) ∧ w'.cell? ⟨w.heap.size, 3, none⟩ = some (.int .u32 (W.ip : Nat)) ∧ w'.cell? ⟨w.heap.size, 4, none⟩ = some (.int .u16 (W.fr : Nat)) ∧ w'.cell? ⟨w.heap.size, 5, none⟩ = some (.int .u16 (W.tu : Nat)) ∧ w'.cell? ⟨w1.heap.size, 0, none⟩ = some (.int .u32 (i1 : Nat)) ∧ w'.cell? ⟨w1.heap.size, 1, none⟩ = some (.int .u16 (j : Nat)) ∧ w'.cell? ⟨bo, off + j, none⟩ = some (.int .u8 (z j : Nat)))
            (with_reducible first | exact dd | exact ds)
            (first | (go_at_call 13; refine (Fix_busy _ x rb ob T W.p _ j W.ip q r hP2.drew hWk.p hi32 (by omega) hWk.ip hql hI HF.out).mono ?_; rintro e w3 ⟨rfl, hu3⟩; have ds : w3.cell? ⟨w.heap.size, 0, none⟩ = some (.int .u8 (W.p : Nat)) ∧ w3.cell? ⟨w.heap.size, 3, none⟩ = some (.int .u32 (W.ip : Nat)) ∧ w3.cell? ⟨w.heap.size, 4, none⟩ = some (.int .u16 (W.fr : Nat)) ∧ w3.cell? ⟨w.heap.size, 5, none⟩ = some (.int .u16 (W.tu : Nat)) ∧ w3.cell? ⟨w1.heap.size, 0, none⟩ = some (.int .u32 (i1 : Nat)) ∧ w3.cell? ⟨w1.heap.size, 1, none⟩ = some (.int .u16 (j : Nat)) ∧ w3.cell? ⟨bo, off + j, none⟩ = some (.int .u8 (z j : Nat)) := ⟨hu3.keep dd.1 id, hu3.keep dd.2.1 id, hu3.keep dd.2.2.1 id, hu3.keep dd.2.2.2.1 id, hu3.keep dd.2.2.2.2.1 id, hu3.keep dd.2.2.2.2.2.1 id, hu3.keep dd.2.2.2.2.2.2 id⟩))
          have hud := (Upto.refl NoS Ws1).drew.trans hu3
          go_wp2_with fail
          go_roundw
          case rel => first | exact ⟨j + 1, j, T, by omega, by go_num, hP2.upto hud, hK2.no hud, HO.out.next, hU2.trans hud, Nat.le_trans hs2 hud.size⟩ | ((repeat apply Exists.intro); refine ⟨?_, rfl⟩; exact ⟨j + 1, j, T, by omega, by go_num, hP2.upto hud, hK2.no hud, HO.out.next, hU2.trans hud, Nat.le_trans hs2 hud.size⟩)
          case measure => simp [intOf]; omega
        | none =>
          have HF := Lib.hid hf
          clear hf
          go_region_held3 (fun w' => w'.cell? ⟨w.heap.size, 0, none⟩ = some (.int .u8 (W.p : Nat)) ∧ w'.cell? ⟨w.heap.size, 3, none⟩ = some (.int .u32 (W.ip : Nat)) ∧ w'.cell? ⟨w.heap.size, 4, none⟩ = some (.int .u16 (W.fr : Nat)) ∧ w'.cell? ⟨w.heap.size, 5, none⟩ = some (.int .u16 (W.tu : Nat)) ∧ w'.cell? ⟨w1.heap.size, 0, none⟩ = some (.int .u32 (i1 : Nat)) ∧ w'.cell? ⟨w1.heap.size, 1, none⟩ = some (.int .u16 (j : Nat)) ∧ w'.cell? ⟨bo, off + j, none⟩ = some (.int .u8 (z j : Nat)))
            (with_reducible first | exact dd | exact ds)
            (first | (go_at_call 13; refine (Fix_new _ x rb ob T W.p _ j W.ip q hP2.drew hWk.p hi32 (by omega) hWk.ip hql hI HF.out (by omega)).mono ?_; rintro e w3 ⟨rfl, k3, hk3, hP3, hu3⟩; have ds : w3.cell? ⟨w.heap.size, 0, none⟩ = some (.int .u8 (W.p : Nat)) ∧ w3.cell? ⟨w.heap.size, 3, none⟩ = some (.int .u32 (W.ip : Nat)) ∧ w3.cell? ⟨w.heap.size, 4, none⟩ = some (.int .u16 (W.fr : Nat)) ∧ w3.cell? ⟨w.heap.size, 5, none⟩ = some (.int .u16 (W.tu : Nat)) ∧ w3.cell? ⟨w1.heap.size, 0, none⟩ = some (.int .u32 (i1 : Nat)) ∧ w3.cell? ⟨w1.heap.size, 1, none⟩ = some (.int .u16 (j : Nat)) ∧ w3.cell? ⟨bo, off + j, none⟩ = some (.int .u8 (z j : Nat)) := ⟨hu3.keep dd.1 (fun (e : w.heap.size = rb ∨ w.heap.size = ob) => by omega), hu3.keep dd.2.1 (fun (e : w.heap.size = rb ∨ w.heap.size = ob) => by omega), hu3.keep dd.2.2.1 (fun (e : w.heap.size = rb ∨ w.heap.size = ob) => by omega), hu3.keep dd.2.2.2.1 (fun (e : w.heap.size = rb ∨ w.heap.size = ob) => by omega), hu3.keep dd.2.2.2.2.1 (fun (e : w1.heap.size = rb ∨ w1.heap.size = ob) => by omega), hu3.keep dd.2.2.2.2.2.1 (fun (e : w1.heap.size = rb ∨ w1.heap.size = ob) => by omega), hu3.keep dd.2.2.2.2.2.2 (fun (e : bo = rb ∨ bo = ob) => by omega)⟩))
          have hud := ((Upto.refl NoS Ws1).drew.mono (T := fun i => i = rb ∨ i = ob) (fun _ _ h => h.elim)).trans hu3
          have hK3 := hK2.upto hud (fun i (hi : i = rb ∨ i = ob) => by omega)
          have hO3 := HO.out.add q k3
          rw [← HI1.out] at hO3
          have HO3 := Lib.hid hO3
          clear hO3
          go_wp2_with fail
          go_roundw
          case rel => first | exact ⟨j + 1, j, _, by omega, by go_num, hP3, hK3, HO3.out, hU2.trans' hud (fun i hi (e : i = rb ∨ i = ob) => by omega), Nat.le_trans hs2 hud.size⟩ | ((repeat apply Exists.intro); refine ⟨?_, rfl⟩; exact ⟨j + 1, j, _, by omega, by go_num, hP3, hK3, HO3.out, hU2.trans' hud (fun i hi (e : i = rb ∨ i = ob) => by omega), Nat.le_trans hs2 hud.size⟩)
          case measure => simp [intOf]; omega
      · obtain rfl : j = len := by omega
        have yj : decide ((j : Int) < (j : Int)) = false := decide_eq_false (by omega)
        have hOwn := hO.own hWk
        have hTm := hO.many
        clear hz hO
        replace hK : wr.rowIs w.heap.size 28 7 (wF W) := hK.wr
        obtain ⟨d0, d1, d2, d3, d4, d5, d6⟩ := ws_cells hK
        have ht16 := hWk.tu
        have hr16 := hWk.fr
        have v0 : IntKind.i64.wrap (W.fr : Nat) = (W.fr : Nat) := IntWalk.i64_in _ (by omega)
        have v1 : IntKind.i64.wrap (W.tu : Nat) = (W.tu : Nat) := IntWalk.i64_in _ (by omega)
        have v2 : IntKind.i64.wrap (W.ib : Nat) = (W.ib : Nat) := IntWalk.i64_in _ (by have := hWk.ib; omega)
        go_wp2_with fail
        go_loopw [8, 9, 10, 11] (fun vf ve vo vn w5 => ∃ k : Nat, W.fr + k ≤ W.tu + 1 ∧ vn = .int .i64 (W.fr + k : Nat) ∧ vf = .int .i64 (cnt W.fr (freeT T W) k : Nat) ∧ ve = .int .i64 (cnt W.fr (fun n => freeT T W n && parT W n) k : Nat) ∧ vo = .bool (anyB W.fr (fun n => freeT T W n && n == W.ib) k) ∧ PsAt w5 x rb ob T ∧ w5.rowIs w.heap.size 28 7 (wF W) ∧ Upto NoS w w5) (fun _ _ _ vn _ => W.tu + 1 - (intOf vn).toNat)
        case atStart => exact ⟨0, by have := hmay.2; omega, rfl, rfl, rfl, rfl, hP, hK, hU⟩
        case round =>
          clear hP hK hU d0 d1 d2 d3 d4 d5 d6 hs hx2
          obtain ⟨k, hk, rfl, rfl, rfl, rfl, hP, hK, hU⟩ := hrel
          obtain ⟨d0, d1, d2, d3, d4, d5, d6⟩ := ws_cells hK
          have hkl : k ≤ 12 := by omega
          have cF := cnt_le W.fr (freeT T W) k
          have cE := cnt_le W.fr (fun n => freeT T W n && parT W n) k
          by_cases hin : W.fr + k ≤ W.tu
          · have bn : decide (((W.fr + k : Nat) : Int) ≤ (W.tu : Int)) = true := decide_eq_true (by omega)
            obtain ⟨F, hF⟩ : ∃ F, F = cnt W.fr (freeT T W) k := ⟨_, rfl⟩
            obtain ⟨E, hE⟩ : ∃ E, E = cnt W.fr (fun n => freeT T W n && parT W n) k := ⟨_, rfl⟩
            obtain ⟨O, hO⟩ : ∃ O, O = anyB W.fr (fun n => freeT T W n && n == W.ib) k := ⟨_, rfl⟩
            rw [← hF, ← hE, ← hO]
            rw [← hF] at cF
            rw [← hE] at cE
            have HF := Lib.hid hF
            have HE := Lib.hid hE
            have HO := Lib.hid hO
            clear hF hE hO
            obtain ⟨n, hn⟩ : ∃ n, n = W.fr + k := ⟨_, rfl⟩
            rw [← hn] at bn hin ⊢
            have HN := Lib.hid hn
            have hnn : n < 65536 := by omega
            have HN1 := Lib.hid (show n + 1 = W.fr + (k + 1) by omega)
            have hmeas : W.tu + 1 - (n + 1) < W.tu + 1 - n := by omega
            clear hn
            have t0 : IntKind.u16.wrap (n : Nat) = (n : Nat) := IntWalk.u16_in _ (by omega)
            have t1 : IntKind.i64.wrap ((n : Int) + 1) = ((n + 1 : Nat) : Int) := IntWalk.i64_in _ (by omega)
            have t2 : IntKind.i64.wrap ((F : Int) + 1) = ((F + 1 : Nat) : Int) := IntWalk.i64_in _ (by omega)
            have t3 : IntKind.i64.wrap ((E : Int) + 1) = ((E + 1 : Nat) : Int) := IntWalk.i64_in _ (by omega)
            have hb5 := hK.lt
            cases hf : fO T W.p W.ip n with
            | some r =>
              have hFr : freeT T W n = false := by unfold freeT; rw [hf]; rfl
              have HR := Lib.hid hf
              have HFR := Lib.hid hFr
              clear hf hFr
              go_wp2_with (first
                | (go_at_call 15; refine (Owner_some _ x rb ob T W.p W.ip n r hP hWk.p hWk.ip hnn HR.out).mono ?_; rintro e w6 ⟨rfl, hu6⟩; replace hP := (hP.upto hu6).alloc (.cells #[.int .u8 (r.1.p : Nat), .int .u32 (r.1.oa : Nat), .int .u16 (r.1.ob : Nat), .int .u32 (r.1.ia : Nat), .int .u16 (r.1.ib : Nat), .int .i64 (r.1.live : Nat), .int .i64 (r.1.held : Nat)] 42); replace hK := (hu6.row hK (fun h => h.elim)).alloc (.cells #[.int .u8 (r.1.p : Nat), .int .u32 (r.1.oa : Nat), .int .u16 (r.1.ob : Nat), .int .u32 (r.1.ia : Nat), .int .u16 (r.1.ib : Nat), .int .i64 (r.1.live : Nat), .int .i64 (r.1.held : Nat)] 42); replace hU := (hU.trans hu6).alloc (.cells #[.int .u8 (r.1.p : Nat), .int .u32 (r.1.oa : Nat), .int .u16 (r.1.ob : Nat), .int .u32 (r.1.ia : Nat), .int .u16 (r.1.ib : Nat), .int .i64 (r.1.live : Nat), .int .i64 (r.1.held : Nat)] 42); clear hu6 d0 d1 d2 d3 d4 d5 d6; obtain ⟨d0, d1, d2, d3, d4, d5, d6⟩ := ws_cells hK))
              go_roundw
              case rel => exact ⟨k + 1, by have := HN1.out; omega, by first | (rw [← HN1.out]; go_num) | (rw [← HN1.out]; rfl), by rw [show cnt W.fr (freeT T W) (k + 1) = cnt W.fr (freeT T W) k + (if (freeT T W) (W.fr + k) = true then 1 else 0) from rfl, ← HF.out, ← HN.out]; simp [HFR.out], by rw [show cnt W.fr (fun n => freeT T W n && parT W n) (k + 1) = cnt W.fr (fun n => freeT T W n && parT W n) k + (if (fun n => freeT T W n && parT W n) (W.fr + k) = true then 1 else 0) from rfl, ← HE.out, ← HN.out]; simp [HFR.out], by rw [show anyB W.fr (fun n => freeT T W n && n == W.ib) (k + 1) = (anyB W.fr (fun n => freeT T W n && n == W.ib) k || (fun n => freeT T W n && n == W.ib) (W.fr + k)) from rfl, ← HO.out, ← HN.out]; simp [HFR.out], hP, hK, hU⟩
              case measure => simp [intOf]; omega
            | none =>
              have hFr : freeT T W n = true := by unfold freeT; rw [hf]; rfl
              have HR := Lib.hid hf
              have HFR := Lib.hid hFr
              clear hf hFr
              have hpe := par_eq n W.ib
              have hown : ((n : Int) == (W.ib : Int)) = (n == W.ib) := by
                by_cases h : n = W.ib
                · rw [h]; simp
                · rw [beq_eq_false_iff_ne.2 h, beq_eq_false_iff_ne.2 (by omega)]
              cases hO2 : (n == W.ib)
              all_goals
                cases O
                all_goals
                  rw [hO2] at hown
                  cases hpp : (n % 2 == W.ib % 2)
                  all_goals
                    rw [hpp] at hpe
                    replace hpe := hpe.symm
                    have HO2 := Lib.hid hO2
                    have HPP := Lib.hid (show parT W n = _ from hpp)
                    clear hpp
                    go_wp2_with (first
                      | (go_at_call 15; refine (Owner_no _ x rb ob T W.p W.ip n hP hWk.p hWk.ip hnn HR.out).mono ?_; rintro e w6 ⟨rfl, hu6⟩; replace hP := (hP.upto hu6).alloc (.cells #[.int .u8 (rw0.p : Nat), .int .u32 (rw0.oa : Nat), .int .u16 (rw0.ob : Nat), .int .u32 (rw0.ia : Nat), .int .u16 (rw0.ib : Nat), .int .i64 (rw0.live : Nat), .int .i64 (rw0.held : Nat)] 42); replace hK := (hu6.row hK (fun h => h.elim)).alloc (.cells #[.int .u8 (rw0.p : Nat), .int .u32 (rw0.oa : Nat), .int .u16 (rw0.ob : Nat), .int .u32 (rw0.ia : Nat), .int .u16 (rw0.ib : Nat), .int .i64 (rw0.live : Nat), .int .i64 (rw0.held : Nat)] 42); replace hU := (hU.trans hu6).alloc (.cells #[.int .u8 (rw0.p : Nat), .int .u32 (rw0.oa : Nat), .int .u16 (rw0.ob : Nat), .int .u32 (rw0.ia : Nat), .int .u16 (rw0.ib : Nat), .int .i64 (rw0.live : Nat), .int .i64 (rw0.held : Nat)] 42); clear hu6 d0 d1 d2 d3 d4 d5 d6; obtain ⟨d0, d1, d2, d3, d4, d5, d6⟩ := ws_cells hK))
                    go_roundw
                    case rel => exact ⟨k + 1, by have := HN1.out; omega, by first | (rw [← HN1.out]; go_num) | (rw [← HN1.out]; rfl), by rw [show cnt W.fr (freeT T W) (k + 1) = cnt W.fr (freeT T W) k + (if (freeT T W) (W.fr + k) = true then 1 else 0) from rfl, ← HF.out, ← HN.out]; simp [HFR.out], by rw [show cnt W.fr (fun n => freeT T W n && parT W n) (k + 1) = cnt W.fr (fun n => freeT T W n && parT W n) k + (if (fun n => freeT T W n && parT W n) (W.fr + k) = true then 1 else 0) from rfl, ← HE.out, ← HN.out]; simp [HFR.out, HPP.out], by rw [show anyB W.fr (fun n => freeT T W n && n == W.ib) (k + 1) = (anyB W.fr (fun n => freeT T W n && n == W.ib) k || (fun n => freeT T W n && n == W.ib) (W.fr + k)) from rfl, ← HO.out, ← HN.out]; simp [HFR.out, HO2.out], hP, hK, hU⟩
                    case measure => simp [intOf]; omega
          · have bn : decide (((W.fr + k : Nat) : Int) ≤ (W.tu : Int)) = false := decide_eq_false (by omega)
            have hkk : W.fr + k = W.tu + 1 := by omega
            obtain ⟨F, hF⟩ : ∃ F, F = cnt W.fr (freeT T W) k := ⟨_, rfl⟩
            obtain ⟨E, hE⟩ : ∃ E, E = cnt W.fr (fun n => freeT T W n && parT W n) k := ⟨_, rfl⟩
            obtain ⟨O, hO⟩ : ∃ O, O = anyB W.fr (fun n => freeT T W n && n == W.ib) k := ⟨_, rfl⟩
            rw [← hF, ← hE, ← hO]
            by_cases hF0 : F = 0
            · have hall := (cnt_zero _ _ _).1 (hF.symm.trans hF0)
              have hpk : pickR (T.map Prod.fst) W = none := by
                rw [pickR_T]
                exact pick_none W hmay _ (fun n h1 h2 => by have := hall (n - W.fr) (by omega); rwa [show W.fr + (n - W.fr) = n by omega] at this)
              subst hF0
              have HPK := Lib.hid hpk
              clear hF hE hO hall hpk
              go_wp2_with fail
              refine (Take_full _ x rb ob T W hP hWk hmay hOwn (by omega) HPK.out).mono ?_
              rintro e wa ⟨rfl, _, hua⟩
              replace hU := (hU.trans hua).alloc (.cells #[.int .u32 0, .int .u16 0] 26)
              go_wp2_with (go_at_call 8; refine (let_any _).mono ?_; rintro e w9 ⟨rfl, hu9⟩)
              go_ret
              exact ⟨rfl, hU.trans hu9⟩
            · obtain ⟨n, hn1, hn2, hnf⟩ : ∃ n, W.fr ≤ n ∧ n ≤ W.tu ∧ freeT T W n = true := by
                refine Classical.byContradiction fun hc => hF0 ?_
                rw [hF]
                refine (cnt_zero _ _ _).2 fun i hi => ?_
                cases hv : freeT T W (W.fr + i)
                · rfl
                · exact absurd ⟨_, by omega, by omega, hv⟩ hc
              obtain ⟨q, hq, hq16, hqo, hqe⟩ := pick_law W hWk hmay (freeT T W) hn1 hn2 hnf
              rw [← pickR_T] at hq
              have hO2 : O = true → ((q : Int) == (W.ib : Int)) = true := by
                intro h
                obtain ⟨i, hi, hf⟩ := anyB_true _ _ _ (hO.symm.trans h)
                have hf' : (freeT T W (W.fr + i) && W.fr + i == W.ib) = true := hf
                rw [Bool.and_eq_true_iff] at hf'
                have he : W.fr + i = W.ib := eq_of_beq hf'.2
                rw [hqo (by omega) (by omega) (by rw [← he]; exact hf'.1)]
                simp
              have hE2 : E ≠ 0 → ((q : Int) % 2 == (W.ib : Int) % 2) = true := by
                intro h
                have : ∃ m, W.fr ≤ m ∧ m ≤ W.tu ∧ freeT T W m = true ∧ m % 2 = W.ib % 2 := by
                  refine Classical.byContradiction fun hc => h ?_
                  rw [hE]
                  refine (cnt_zero _ _ _).2 fun i hi => ?_
                  cases hv : (freeT T W (W.fr + i) && parT W (W.fr + i))
                  · rfl
                  · rw [Bool.and_eq_true_iff] at hv
                    exact absurd ⟨_, by omega, by omega, hv.1, eq_of_beq hv.2⟩ hc
                rw [← par_eq, hqe this]
                simp
              have bF : ((F : Int) == 0) = false := by rw [beq_eq_false_iff_ne]; omega
              have HQ := Lib.hid hq
              clear hF hE hO hq hqo hqe hnf
              have e1 : IntKind.u16.wrap ((q : Int) % 2) = (q : Int) % 2 := IntWalk.u16_in _ (by omega)
              have e2 : IntKind.u16.wrap ((W.ib : Int) % 2) = (W.ib : Int) % 2 := IntWalk.u16_in _ (by omega)
              by_cases hE0 : E = 0
              all_goals
                cases O
                all_goals
                  first | (have hE3 := hE2 hE0; have bE : ((E : Int) == 0) = false := by rw [beq_eq_false_iff_ne]; omega) | subst hE0
                  (try have hO3 := hO2 rfl)
                  clear hO2 hE2
                  go_wp2_with fail
                  refine (Take_pick _ x rb ob T W q hP hWk hmay hOwn (by omega) HQ.out).mono ?_
                  rintro e wa ⟨rfl, k9, hk9, hP9, hua⟩
                  replace hK := (hua.row hK (fun (hi : w.heap.size = rb ∨ w.heap.size = ob) => by omega)).alloc (.cells #[.int .u32 (W.ip : Nat), .int .u16 (q : Nat)] 26)
                  replace hU := (hU.trans' hua (fun i hi (e : i = rb ∨ i = ob) => by omega)).alloc (.cells #[.int .u32 (W.ip : Nat), .int .u16 (q : Nat)] 26)
                  obtain ⟨r0, r1⟩ := ep2 (row_ep wa (W.ip : Nat) (q : Nat))
                  clear hP hP9 hua d0 d1 d2 d3 d4 d5 d6
                  obtain ⟨d0, d1, d2, d3, d4, d5, d6⟩ := ws_cells hK
                  go_wp2_with (go_at_call 8; refine (let_any _).mono ?_; rintro e w9 ⟨rfl, hu9⟩)
                  go_ret
                  exact ⟨rfl, hU.trans hu9⟩
end Go.Proofs.Ytfiblchdfacdiaa
