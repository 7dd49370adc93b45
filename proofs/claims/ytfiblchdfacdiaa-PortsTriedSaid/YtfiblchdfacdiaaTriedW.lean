/- PortsTried, walked. -/
import Derived.Test.YtfiblchdfacdiaaTriedB
namespace Go.Proofs.Ytfiblchdfacdiaa
open Go Go.RowKit Go.Deep Go.Maps

/-- The variables of PortsTried: the wish, the inner endpoint that goes on. -/
structure TrF (w : World) (B H : Nat) (W : Ws) (h : Nat) : Prop where
  wr : w.rowIs B 28 7 (wF W)
  hd : w.rowIs H 26 2 (epF (h : Nat) (W.ib : Nat))
theorem TrF.upto {S : Nat → Prop} {w w' : World} {B H h : Nat} {W : Ws} (k : TrF w B H W h) (hu : Upto S w w') (hS : ∀ i, S i → i ≠ B ∧ i ≠ H) : TrF w' B H W h :=
  ⟨hu.row k.wr (fun hs => (hS _ hs).1 rfl), hu.row k.hd (fun hs => (hS _ hs).2 rfl)⟩
theorem TrF.no {w w' : World} {B H h : Nat} {W : Ws} (k : TrF w B H W h) (hu : Upto NoS w w') : TrF w' B H W h := k.upto hu (fun _ h => h.elim)
/-- The endpoint one on. -/
theorem TrF.set {w : World} {B H h : Nat} {W : Ws} (k : TrF w B H W h) (hne : B ≠ H) (v : Nat) : TrF (w.setCell ⟨H, 0, none⟩ (.int .u32 (v : Nat))) B H W v := by
  have hu : Upto (fun i => i = H) w (w.setCell ⟨H, 0, none⟩ (.int .u32 (v : Nat))) := (Upto.refl (fun i => i = H) w).setB rfl _
  refine ⟨hu.row k.wr hne, (k.hd.set 0 _).congr fun i hi => ?_⟩
  match i, hi with
  | 0, _ => rfl
  | 1, _ => rfl
theorem wrap32 (a : Nat) : IntKind.u32.wrap (((a % 4294967296 : Nat) : Int) + 1) = (((a + 1) % 4294967296 : Nat) : Int) := by
  rw [IntKind.wrap_u32]
  omega
/-- A list of numbers at a block. -/
def LAt (w : World) (g : Nat) (l : List Nat) : Prop := g < w.heap.size ∧ ∀ i, i < l.length → w.cell? ⟨g, i, none⟩ = some (.int .u16 (l.getD i 0 : Nat))
theorem LAt.no {w w' : World} {g : Nat} {l : List Nat} (h : LAt w g l) (hu : Upto NoS w w') : LAt w' g l :=
  ⟨Nat.lt_of_lt_of_le h.1 hu.size, fun i hi => hu.keep (h.2 i hi) id⟩
theorem tried_pos (W : Ws) (h : W.may) : 0 < W.tried.length := by
  have hn : 0 < W.n := by unfold Ws.n; omega
  have h1 : (W.part 1 W.n).length = W.n := by
    have hf : ∀ l : List Nat, l.filter (fun q => !(decide ((1 : Nat) = 0) && skipB q W.ib)) = l := fun l => List.filter_eq_self.2 (fun _ _ => rfl)
    unfold Ws.part
    rw [hf]
    simp
  unfold Ws.tried
  rw [show W.done 2 = W.done 1 ++ W.part 1 W.n from done_succ W (by omega), List.length_append, h1]
  omega
theorem tried_le (W : Ws) (h : W.Ok) : W.tried.length ≤ 200000 := by
  have := done_le W 2
  have := n_le W h
  unfold Ws.tried
  omega

set_option maxRecDepth 100000 in
set_option maxHeartbeats 16000000 in
theorem tried_walk (w : World) (W0 : Ws) (a : Option Addr) (len cap : Nat) (z : Nat → Nat) (hW0 : W0.Ok) (hm : len ≤ 9223372036854775807) (hz : NumsAt w a len z) :
    Calls Try.prog 3 #[wv W0, .slice a len cap] w (Told (.bool true) w) := by
  have hR0 := new_ws w W0
  have u0 := (Upto.refl NoS w).alloc (.cells (wcells W0) 28)
  obtain ⟨d0, d1, d2, d3, d4, d5, d6⟩ := ws_cells hR0
  have f5 := hR0.frozen 5
  obtain ⟨o1, o2, o3, o4, o5, o6, o7⟩ := hW0
  have wN : IntKind.i64.wrap ((W0.tu : Int) - W0.fr) = (W0.tu : Int) - W0.fr := IntWalk.i64_in _ (by omega)
  by_cases hlen : 40 < len
  · have b0 : decide ((40 : Int) < len) = true := decide_eq_true (by omega)
    go_enter Try.func3, Try.ntmps3
    go_wp2_with (go_at_call 8; refine (let_any _).mono ?_; rintro e w2 ⟨rfl, hu⟩)
    go_ret
    exact ⟨rfl, u0.trans hu⟩
  · have b0 : decide ((40 : Int) < len) = false := decide_eq_false (by omega)
    by_cases hbig : 3000 < (W0.tu : Int) - W0.fr
    · have b1 : decide ((3000 : Int) < (W0.tu : Int) - W0.fr) = true := decide_eq_true hbig
      have hw3 : IntKind.u16.wrap ((W0.fr : Int) + 3000) = (W0.fr : Int) + 3000 := IntWalk.u16_in _ (by omega)
      have hR3 : (w.alloc (.cells #[.int .u8 (W0.p : Nat), .int .u32 (W0.ia : Nat), .int .u16 (W0.ib : Nat), .int .u32 (W0.ip : Nat), .int .u16 (W0.fr : Nat), .int .u16 ((W0.fr : Int) + 3000), .int .u16 (W0.dr : Nat)] 28)).rowIs w.heap.size 28 7 (wF ⟨W0.p, W0.ia, W0.ib, W0.ip, W0.fr, W0.fr + 3000, W0.dr⟩) := new_ws w ⟨W0.p, W0.ia, W0.ib, W0.ip, W0.fr, W0.fr + 3000, W0.dr⟩
      replace u0 := (Upto.refl NoS w).alloc (.cells #[.int .u8 (W0.p : Nat), .int .u32 (W0.ia : Nat), .int .u16 (W0.ib : Nat), .int .u32 (W0.ip : Nat), .int .u16 (W0.fr : Nat), .int .u16 ((W0.fr : Int) + 3000), .int .u16 (W0.dr : Nat)] 28)
      go_enter Try.func3, Try.ntmps3
      go_wp2_with (go_at_call 9; refine (New_any _).mono ?_; rintro e w1 ⟨x, rb, ob, rfl, h1, u1, hx, hrb, hob⟩; have hR1 := u1.row hR3 (fun h => h.elim); obtain ⟨e0, e1, e2, e3, e4, e5, e6⟩ := ws_cells hR1; have hrb' := hrb; have hb1 := h1.rows.lt; have hb2 := h1.of_.lt; have hx1 := h1.lt; simp only [World.size_alloc] at hrb hob hx)
      obtain ⟨W, hWd⟩ : ∃ W : Ws, W = ⟨W0.p, W0.ia, W0.ib, W0.ip, W0.fr, W0.fr + 3000, W0.dr⟩ := ⟨_, rfl⟩
      have hWk : W.Ok := by rw [hWd]; exact ⟨o1, o2, o3, o4, o5, (by show W0.fr + 3000 < 65536; omega), o7⟩
      rw [← hWd] at hR1
      have hK0 : TrF (w1.alloc (.cells #[.int .u32 (W0.ia : Nat), .int .u16 (W0.ib : Nat)] 26)) w.heap.size w1.heap.size W ((W.ia + 0) % 4294967296) := by
        refine ⟨hR1.alloc _, ?_⟩
        have := row_ep w1 (W0.ia : Nat) (W0.ib : Nat)
        rwa [show (W.ia + 0) % 4294967296 = W0.ia by rw [hWd, Nat.add_zero, Nat.mod_eq_of_lt o2], show W.ib = W0.ib by rw [hWd]]
      have hP0 := h1.alloc (.cells #[.int .u32 (W0.ia : Nat), .int .u16 (W0.ib : Nat)] 26)
      have hU0 := (u0.trans u1).alloc (.cells #[.int .u32 (W0.ia : Nat), .int .u16 (W0.ib : Nat)] 26)
      have hs0 : w1.heap.size + 1 ≤ (w1.alloc (.cells #[.int .u32 (W0.ia : Nat), .int .u16 (W0.ib : Nat)] 26)).heap.size := by simp
      have hO0 : Oth W 0 [] := ⟨by simp, by simp⟩
      have hwl : w.heap.size + 1 ≤ w1.heap.size := by have := u1.size; simpa using this
      clear hR1 h1 u1 e0 e1 e2 e3 e4 e5 e6 hR0 d0 d1 d2 d3 d4 d5 d6 f5 b1 hWd
      go_loopw [7] (fun v wr => ∃ (j : Nat) (T : List (Rw × Nat)), j ≤ len ∧ v = .int .i64 j ∧ PsAt wr x rb ob T ∧ TrF wr w.heap.size w1.heap.size W ((W.ia + j) % 4294967296) ∧ Oth W j T ∧ (¬ W.may → j = 0) ∧ Upto NoS w wr ∧ w1.heap.size + 1 ≤ wr.heap.size) (fun v _ => len - (intOf v).toNat)
      case atStart => exact ⟨0, [], by omega, rfl, hP0, hK0, hO0, fun _ => rfl, hU0, hs0⟩
      case round =>
        clear hP0 hK0 hO0 hU0 hs0
        obtain ⟨j, T, hj, rfl, hP, hK, hO, hM, hU, hs⟩ := hrel
        obtain ⟨v0, hv0⟩ : ∃ v0, v0 = (W.ia + j) % 4294967296 := ⟨_, rfl⟩
        rw [← hv0] at hK
        have HV0 := Lib.hid hv0
        clear hv0
        obtain ⟨d0, d1, d2, d3, d4, d5, d6⟩ := ws_cells hK.wr
        obtain ⟨m0, m1⟩ := ep2 hK.hd
        have mf := hK.hd.frozen 0
        have hx2 := hP.lt
        by_cases hlt : j < len
        · by_cases hmay : W.may
          · obtain ⟨hzj, bo, off, ha, hbo, hzc⟩ := hz j hlt
            replace hzc := hU.keep hzc id
            have hj40 : j ≤ 40 := by omega
            have hw := wrap32 (W.ia + j)
            rw [show W.ia + j + 1 = W.ia + (j + 1) from rfl] at hw
            obtain ⟨v1, hv1⟩ : ∃ v1, v1 = (W.ia + (j + 1)) % 4294967296 := ⟨_, rfl⟩
            rw [← HV0.out, ← hv1] at hw
            have hne : ((v1 : Int) == (W.ia : Int)) = false := by
              have := hWk.ia
              rw [beq_eq_false_iff_ne]; omega
            have HV1 := Lib.hid hv1
            clear hv1
            subst ha
            clear hz
            go_wp2_with (first
              | (go_at_call 11; refine (Doc_any _ W).mono ?_; rintro e w2 ⟨rfl, hu2⟩; replace hP := hP.upto hu2; replace hK := hK.no hu2; replace hU := hU.trans hu2; replace hzc := hu2.keep hzc id; replace hs := Nat.le_trans hs hu2.size; clear hu2 d0 d1 d2 d3 d4 d5 d6 m0 m1 mf; obtain ⟨d0, d1, d2, d3, d4, d5, d6⟩ := ws_cells hK.wr; obtain ⟨m0, m1⟩ := ep2 hK.hd; have mf := hK.hd.frozen 0)
              | (go_at_call 10; refine (RMay_any _ W true (decide_eq_true hmay)).mono ?_; rintro e w2 ⟨rfl, hu2⟩; replace hP := hP.upto hu2; replace hK := hK.no hu2; replace hU := hU.trans hu2; replace hzc := hu2.keep hzc id; replace hs := Nat.le_trans hs hu2.size; clear hu2 d0 d1 d2 d3 d4 d5 d6 m0 m1 mf; obtain ⟨d0, d1, d2, d3, d4, d5, d6⟩ := ws_cells hK.wr; obtain ⟨m0, m1⟩ := ep2 hK.hd; have mf := hK.hd.frozen 0)
              | (go_at_call 12; refine (Tried_any _ W hWk hmay.1 hmay.2).mono ?_; rintro e w2 ⟨vl, rfl, hL, hu2⟩; obtain ⟨g, lc, hvl, hgb, hgl⟩ := own_form hL (tried_pos W hmay); subst hvl; have hgr := hP.rows.lt; have hgo := hP.of_.lt; replace hP := hP.upto hu2; replace hK := hK.no hu2; replace hU := hU.trans hu2; replace hzc := hu2.keep hzc id; clear d0 d1 d2 d3 d4 d5 d6 m0 m1 mf; obtain ⟨d0, d1, d2, d3, d4, d5, d6⟩ := ws_cells hK.wr; obtain ⟨m0, m1⟩ := ep2 hK.hd; have mf := hK.hd.frozen 0))
            have hg1 : rb < g ∧ ob < g := ⟨by omega, by omega⟩
            clear hgr hgo
            have hLl := tried_pos W hmay
            have hLm := tried_le W hWk
            have hq : z j % W.tried.length < W.tried.length := Nat.mod_lt _ hLl
            obtain ⟨q, hqd⟩ : ∃ q, q = W.tried.getD (z j % W.tried.length) 0 := ⟨_, rfl⟩
            have hlc := ucl_cell hL _ hq
            rw [← hqd] at hlc
            have hql : q < 65536 := by
              have hmem : q ∈ W.tried := by rw [hqd]; simp [hq]
              have := (tried_in W hmay.2 q hmem).2
              have := hWk.tu
              omega
            have ex : ((z j : Nat) : Int) % (W.tried.length : Int) = ((z j % W.tried.length : Nat) : Int) := by push_cast; rfl
            have uH := (Upto.refl (fun i => i = w1.heap.size) w2).setB (b := w1.heap.size) (o := 0) rfl (.int .u32 (v1 : Nat))
            have hP2 := hP.gen uH (fun i hi hs => by
              have hi : i = w1.heap.size := hi
              have n1 := hP.rows.ne_row hK.hd
              have n2 := hP.of_.ne_row hK.hd
              rcases hs with e1 | e1 | e1 | ⟨r, hr, e1⟩
              · omega
              · omega
              · omega
              · obtain ⟨A, hA, _⟩ := hK.hd
                obtain ⟨A2, hA2, _⟩ := hP.blk r hr
                rw [e1, hi, hA] at hA2
                simp at hA2)
            have hK2 := hK.set (show w.heap.size ≠ w1.heap.size by omega) v1
            have hU2 := hU.trans' uH (fun i hi (e : i = w1.heap.size) => by omega)
            have hzc2 := uH.keep hzc (fun (e : bo = w1.heap.size) => by omega)
            have hlc2 := uH.keep hlc (fun (e : g = w1.heap.size) => by have := hu2.size; omega)
            have hs2 : w1.heap.size + 1 ≤ (w2.setCell ⟨w1.heap.size, 0, none⟩ (.int .u32 (v1 : Nat))).heap.size := by have := hu2.size; simp; omega
            generalize hWs : w2.setCell ⟨w1.heap.size, 0, none⟩ (.int .u32 (v1 : Nat)) = Ws1 at hP2 hK2 hU2 hzc2 hlc2 hs2 ⊢
            clear hP hK hU hzc hlc d0 d1 d2 d3 d4 d5 d6 m0 m1 mf uH hWs hL hu2 hgb hgl
            obtain ⟨d0, d1, d2, d3, d4, d5, d6⟩ := ws_cells hK2.wr
            obtain ⟨m0, m1⟩ := ep2 hK2.hd
            have hI := hO.noI hj40 hWk (k := j + 1) (.inr (by omega)) (by omega)
            have hia : v1 < 4294967296 := by rw [HV1.out]; exact Nat.mod_lt _ (by omega)
            rw [← HV1.out] at hI
            have hTm := hO.many
            have y0 : (0 : Int) ≤ (j : Int) := by omega
            have y1 : (j : Int) < (len : Int) := by omega
            have y2 : (0 : Int) ≤ ((z j % W.tried.length : Nat) : Int) := by omega
            have y3 : ((z j % W.tried.length : Nat) : Int) < (W.tried.length : Int) := by omega
            have y4 : ((W.tried.length : Int) == 0) = false := by rw [beq_eq_false_iff_ne]; omega
            have HO := Lib.hid hO
            clear hO hqd
            have hL0 : ¬ ((W.tried.length : Nat) : Int) = 0 := by omega
            have hL1 : ¬ W.tried.length = 0 := by omega
            generalize hLd : W.tried.length = L at hlc2 hq y2 y3 y4 ex hLl hLm hL0 hL1 ⊢
            clear hLd
            generalize hqi : z j % L = qi at hlc2 hq y2 y3 ex
            have hwz : IntKind.i64.wrap ((z j : Nat) : Int) = ((z j : Nat) : Int) := IntWalk.i64_in _ (by omega)
            have hwt : ((z j : Nat) : Int).tmod (L : Int) = (qi : Int) := by rw [Int.tmod_eq_emod_of_nonneg (by omega), ex]
            clear hqi ex
            cases hf : fO T W.p W.ip q with
            | some r =>
              have HF := Lib.hid hf
              clear hf
              go_region_held3 (fun w' => w'.cell? ⟨w.heap.size, 0, none⟩ = some (.int .u8 (W.p : Nat)) ∧ w'.cell? ⟨w.heap.size, 3, none⟩ = some (.int .u32 (W.ip : Nat)) ∧ w'.cell? ⟨w1.heap.size, 0, none⟩ = some (.int .u32 (v1 : Nat)) ∧ w'.cell? ⟨w1.heap.size, 1, none⟩ = some (.int .u16 (W.ib : Nat)) ∧ w'.cell? ⟨bo, off + j, none⟩ = some (.int .u16 (z j : Nat)) ∧ w'.cell? ⟨g, qi, none⟩ = some (.int .u16 (q : Nat)))
                (first | exact ⟨d0, d3, m0, m1, hzc2, hlc2⟩ | exact ⟨hu3.keep d0 id, hu3.keep d3 id, hu3.keep m0 id, hu3.keep m1 id, hu3.keep hzc2 id, hu3.keep hlc2 id⟩)
                (first | (go_at_call 13; refine (Fix_busy _ x rb ob T W.p _ W.ib W.ip q r hP2.drew hWk.p hia hWk.ib hWk.ip hql hI HF.out).mono ?_; rintro e w3 ⟨rfl, hu3⟩))
              have hud := (Upto.refl NoS Ws1).drew.trans hu3
              go_wp2_with fail
              go_roundw
              case rel => first | exact ⟨j + 1, T, by omega, by go_num, hP2.upto hud, by rw [← HV1.out]; exact hK2.no hud, HO.out.next, fun h => absurd hmay h, hU2.trans hud, Nat.le_trans hs2 hud.size⟩ | ((repeat apply Exists.intro); refine ⟨?_, rfl⟩; exact ⟨j + 1, T, by omega, by go_num, hP2.upto hud, by rw [← HV1.out]; exact hK2.no hud, HO.out.next, fun h => absurd hmay h, hU2.trans hud, Nat.le_trans hs2 hud.size⟩)
              case measure => simp [intOf]; omega
            | none =>
              have HF := Lib.hid hf
              clear hf
              go_region_held3 (fun w' => w'.cell? ⟨w.heap.size, 0, none⟩ = some (.int .u8 (W.p : Nat)) ∧ w'.cell? ⟨w.heap.size, 3, none⟩ = some (.int .u32 (W.ip : Nat)) ∧ w'.cell? ⟨w1.heap.size, 0, none⟩ = some (.int .u32 (v1 : Nat)) ∧ w'.cell? ⟨w1.heap.size, 1, none⟩ = some (.int .u16 (W.ib : Nat)) ∧ w'.cell? ⟨bo, off + j, none⟩ = some (.int .u16 (z j : Nat)) ∧ w'.cell? ⟨g, qi, none⟩ = some (.int .u16 (q : Nat)))
                (first | exact ⟨d0, d3, m0, m1, hzc2, hlc2⟩ | exact ⟨hu3.keep d0 (fun (e : w.heap.size = rb ∨ w.heap.size = ob) => by omega), hu3.keep d3 (fun (e : w.heap.size = rb ∨ w.heap.size = ob) => by omega), hu3.keep m0 (fun (e : w1.heap.size = rb ∨ w1.heap.size = ob) => by omega), hu3.keep m1 (fun (e : w1.heap.size = rb ∨ w1.heap.size = ob) => by omega), hu3.keep hzc2 (fun (e : bo = rb ∨ bo = ob) => by omega), hu3.keep hlc2 (fun (e : g = rb ∨ g = ob) => by omega)⟩)
                (first | (go_at_call 13; refine (Fix_new _ x rb ob T W.p _ W.ib W.ip q hP2.drew hWk.p hia hWk.ib hWk.ip hql hI HF.out (by omega)).mono ?_; rintro e w3 ⟨rfl, k3, hk3, hP3, hu3⟩))
              have hud := ((Upto.refl NoS Ws1).drew.mono (T := fun i => i = rb ∨ i = ob) (fun _ _ h => h.elim)).trans hu3
              have hK3 := hK2.upto hud (fun i (hi : i = rb ∨ i = ob) => by omega)
              have hO3 := HO.out.add q W.ib k3
              rw [← HV1.out] at hO3
              have HO3 := Lib.hid hO3
              clear hO3
              go_wp2_with fail
              go_roundw
              case rel => first | exact ⟨j + 1, _, by omega, by go_num, hP3, by rw [← HV1.out]; exact hK3, HO3.out, fun h => absurd hmay h, hU2.trans' hud (fun i hi (e : i = rb ∨ i = ob) => by omega), Nat.le_trans hs2 hud.size⟩ | ((repeat apply Exists.intro); refine ⟨?_, rfl⟩; exact ⟨j + 1, _, by omega, by go_num, hP3, by rw [← HV1.out]; exact hK3, HO3.out, fun h => absurd hmay h, hU2.trans' hud (fun i hi (e : i = rb ∨ i = ob) => by omega), Nat.le_trans hs2 hud.size⟩)
              case measure => simp [intOf]; omega
          · obtain rfl := hM hmay
            clear hz hM
            go_wp2_with (first
              | (go_at_call 11; refine (Doc_any _ W).mono ?_; rintro e w2 ⟨rfl, hu2⟩; replace hP := hP.upto hu2; replace hK := hK.no hu2; replace hU := hU.trans hu2; replace hs := Nat.le_trans hs hu2.size; clear hu2 d0 d1 d2 d3 d4 d5 d6 m0 m1 mf; obtain ⟨d0, d1, d2, d3, d4, d5, d6⟩ := ws_cells hK.wr; obtain ⟨m0, m1⟩ := ep2 hK.hd; have mf := hK.hd.frozen 0)
              | (go_at_call 10; refine (RMay_any _ W false (decide_eq_false hmay)).mono ?_; rintro e w2 ⟨rfl, hu2⟩; replace hP := hP.upto hu2; replace hK := hK.no hu2; replace hU := hU.trans hu2; replace hs := Nat.le_trans hs hu2.size; clear hu2 d0 d1 d2 d3 d4 d5 d6 m0 m1 mf; obtain ⟨d0, d1, d2, d3, d4, d5, d6⟩ := ws_cells hK.wr; obtain ⟨m0, m1⟩ := ep2 hK.hd; have mf := hK.hd.frozen 0)
              | fail)
            refine (Take_arg _ x rb ob T W hP hmay).mono ?_
            rintro e wa ⟨rfl, hua⟩
            replace hK := (hK.no hua).no ((Upto.refl NoS wa).alloc (.cells #[.int .u32 0, .int .u16 0] 26))
            replace hU := (hU.trans hua).alloc (.cells #[.int .u32 0, .int .u16 0] 26)
            have q9 := row_ep wa 0 0
            clear hP hua d0 d1 d2 d3 d4 d5 d6 m0 m1 mf
            obtain ⟨d0, d1, d2, d3, d4, d5, d6⟩ := ws_cells hK.wr
            obtain ⟨r0, r1⟩ := ep2 q9
            go_wp2_with (first
              | (go_at_call 11; refine (Doc_any _ W).mono ?_; rintro e w2 ⟨rfl, hu2⟩; replace hK := hK.no hu2; replace hU := hU.trans hu2; replace q9 := hu2.row q9 (fun h => h.elim); clear hu2 d0 d1 d2 d3 d4 d5 d6 r0 r1; obtain ⟨d0, d1, d2, d3, d4, d5, d6⟩ := ws_cells hK.wr; obtain ⟨r0, r1⟩ := ep2 q9)
              | (go_at_call 10; refine (RMay_any _ W false (decide_eq_false hmay)).mono ?_; rintro e w2 ⟨rfl, hu2⟩; replace hK := hK.no hu2; replace hU := hU.trans hu2; replace q9 := hu2.row q9 (fun h => h.elim); clear hu2 d0 d1 d2 d3 d4 d5 d6 r0 r1; obtain ⟨d0, d1, d2, d3, d4, d5, d6⟩ := ws_cells hK.wr; obtain ⟨r0, r1⟩ := ep2 q9)
              | (go_at_call 8; refine (let_any _).mono ?_; rintro e w2 ⟨rfl, hu2⟩; replace hU := hU.trans hu2))
            go_ret
            exact ⟨rfl, hU⟩
        · have hjl : j = len := by omega
          by_cases hmay : W.may
          · have hOwn := hO.own (by omega) hWk
            have hTm := hO.many
            clear hz hM
            go_wp2_with fail
            refine (Take_new _ x rb ob T W hP hWk hmay hOwn (by omega)).mono ?_
            rintro e wa (⟨q, k, pre, rest, ht, hf, hno, rfl, hk, hPa, hua⟩ | ⟨hno, rfl, hPa, hua⟩)
            · replace hK := (hK.upto hua (fun i (hi : i = rb ∨ i = ob) => by omega)).no ((Upto.refl NoS wa).alloc (.cells #[.int .u32 (W.ip : Nat), .int .u16 (q : Nat)] 26))
              replace hU := (hU.trans' hua (fun i hi (e : i = rb ∨ i = ob) => by omega)).alloc (.cells #[.int .u32 (W.ip : Nat), .int .u16 (q : Nat)] 26)
              have q9 := row_ep wa (W.ip : Nat) (q : Nat)
              have hT2 : ∀ r ∈ T, ¬ r.1.ia = W.ia := fun r hr => hO.not_own (by omega) hWk hr
              replace hP := hPa.alloc (.cells #[.int .u32 (W.ip : Nat), .int .u16 (q : Nat)] 26)
              have HT := Lib.hid hT2
              have HNO := Lib.hid hno
              have HF := Lib.hid hf
              have HTT := Lib.hid ht
              clear hua hPa hT2 hno hf ht hO hOwn d0 d1 d2 d3 d4 d5 d6 m0 m1 mf
              obtain ⟨d0, d1, d2, d3, d4, d5, d6⟩ := ws_cells hK.wr
              go_wp2_with (first
                | (go_at_call 11; refine (Doc_any _ W).mono ?_; rintro e w2 ⟨rfl, hu2⟩; replace hP := hP.upto hu2; replace hK := hK.no hu2; replace hU := hU.trans hu2; replace q9 := hu2.row q9 (fun h => h.elim); clear d0 d1 d2 d3 d4 d5 d6; obtain ⟨d0, d1, d2, d3, d4, d5, d6⟩ := ws_cells hK.wr; clear hu2)
                | (go_at_call 10; refine (RMay_any _ W true (decide_eq_true hmay)).mono ?_; rintro e w2 ⟨rfl, hu2⟩; replace hP := hP.upto hu2; replace hK := hK.no hu2; replace hU := hU.trans hu2; replace q9 := hu2.row q9 (fun h => h.elim); clear d0 d1 d2 d3 d4 d5 d6; obtain ⟨d0, d1, d2, d3, d4, d5, d6⟩ := ws_cells hK.wr; clear hu2)
                | (go_at_call 12; refine (Tried_any _ W hWk hmay.1 hmay.2).mono ?_; rintro e w2 ⟨vl, rfl, hL, hu2⟩; obtain ⟨g, lc, hvl, hgb, hgl⟩ := own_form hL (tried_pos W hmay); subst hvl; have hLA : LAt w2 g W.tried := ⟨hgl, fun i hi => ucl_cell hL i hi⟩; replace hP := hP.upto hu2; replace hK := hK.no hu2; replace hU := hU.trans hu2; replace q9 := hu2.row q9 (fun h => h.elim); clear d0 d1 d2 d3 d4 d5 d6; obtain ⟨d0, d1, d2, d3, d4, d5, d6⟩ := ws_cells hK.wr; clear hu2 hL hgb))
              have hLm := tried_le W hWk
              go_loopw [12] (fun v wr => ∃ i : Nat, i ≤ pre.length ∧ v = .int .i64 i ∧ PsAt wr x rb ob (T ++ [(newR W.p W.ip q W.ia W.ib, k)]) ∧ (∃ hh, TrF wr w.heap.size w1.heap.size W hh) ∧ wr.rowIs wa.heap.size 26 2 (epF (W.ip : Nat) (q : Nat)) ∧ LAt wr g W.tried ∧ Upto NoS w wr) (fun v _ => W.tried.length - (intOf v).toNat)
              case atStart => exact ⟨0, by omega, rfl, hP, ⟨_, hK⟩, q9, hLA, hU⟩
              case round =>
                clear hP hK q9 hLA hU
                obtain ⟨i, hi, rfl, hP, ⟨hh, hK⟩, q9, hLA, hU⟩ := hrel
                have hil : i < W.tried.length := by rw [HTT.out]; simp; omega
                obtain ⟨y, hy⟩ : ∃ y, y = W.tried.getD i 0 := ⟨_, rfl⟩
                have hyc := hLA.2 i hil
                rw [← hy] at hyc
                have hy16 : y < 65536 := by
                  have hmem : y ∈ W.tried := by rw [hy]; simp [hil]
                  have := (tried_in W hmay.2 y hmem).2
                  have := hWk.tu
                  omega
                have bi : decide ((i : Int) < (W.tried.length : Int)) = true := decide_eq_true (by omega)
                have yi0 : (0 : Int) ≤ (i : Int) := by omega
                have yi1 : (i : Int) < (W.tried.length : Int) := by omega
                have HY := Lib.hid hy
                clear hy
                obtain ⟨d0, d1, d2, d3, d4, d5, d6⟩ := ws_cells hK.wr
                have hB := hK.wr.lt
                have hg := hLA.1
                have ne1 : ¬ w.heap.size = wr.heap.size := by omega
                have ne2 : ¬ g = wr.heap.size := by omega
                by_cases hip : i < pre.length
                · have hmem : y ∈ pre := by rw [HY.out, HTT.out, List.getD_eq_getElem?_getD, List.getElem?_append_left hip, List.getElem?_eq_getElem hip]; exact List.getElem_mem hip
                  obtain ⟨r, hr⟩ : ∃ r, fO T W.p W.ip y = some r := by
                    have := HNO.out y hmem
                    cases hc : fO T W.p W.ip y with
                    | none => rw [hc] at this; cases this
                    | some r => exact ⟨r, rfl⟩
                  have hr2 : fO (T ++ [(newR W.p W.ip q W.ia W.ib, k)]) W.p W.ip y = some r := by rw [fO_append, hr]; rfl
                  have hrT := HT.out r (PsAt.fO_mem hr).1
                  have bne : ((r.1.ia : Int) == (W.ia : Int)) = false := by rw [beq_eq_false_iff_ne]; omega
                  have HR2 := Lib.hid hr2
                  clear hr hr2 hmem
                  go_upto_block 3 with (fail)
                  refine of_onlyNR ?_
                  refine round_other hP hK.wr hWk HR2.out hy16 hrT hyc hil ?_
                  intro d4 d13 d14 d105 d106 d107 d108 d109 d110 d111 d112 d113 d114 d115 d116 d117 d118 d119 d120 d121 d122 d123 d124 d125 d126 d127 d128 d129 d130 d131 d132 d133 d134 d135 d136 d137 d138 d139 d140 d141 d142 d143 d144 d145 d146 w3 hu3
                  go_wp2_with fail
                  go_roundw
                  case rel => first | exact ⟨i + 1, by omega, by go_num, hP.upto hu3, ⟨_, hK.no hu3⟩, hu3.row q9 (fun h => h.elim), hLA.no hu3, hU.trans hu3⟩ | ((repeat apply Exists.intro); refine ⟨?_, rfl⟩; exact ⟨i + 1, by omega, by go_num, hP.upto hu3, ⟨_, hK.no hu3⟩, hu3.row q9 (fun h => h.elim), hLA.no hu3, hU.trans hu3⟩)
                  case measure => simp [intOf]; omega
                · have hil2 : i = pre.length := by omega
                  have hyq : y = q := by rw [HY.out, HTT.out, hil2]; simp
                  subst hyq
                  have hr2 : fO (T ++ [(newR W.p W.ip y W.ia W.ib, k)]) W.p W.ip y = some (⟨W.p, W.ip, y, W.ia, W.ib, 0, 1⟩, k) := by rw [fO_append, HF.out]; simp [newR]
                  have HR2 := Lib.hid hr2
                  clear hr2
                  go_upto_block 3 with (fail)
                  refine of_onlyNR ?_
                  refine round_own hP hK.wr hWk HR2.out hy16 q9 hyc hil ?_
                  intro act w3 h4 hd4 hu3
                  (try simp only [Exit.inBlock, Exit.then])
                  exact bodyPost_ret (by rw [← h4]; exact results_tmp rfl _ _ _) hd4 ⟨rfl, hU.trans hu3⟩
            · replace hK := (hK.no hua).no ((Upto.refl NoS wa).alloc (.cells #[.int .u32 0, .int .u16 0] 26))
              replace hU := (hU.trans hua).alloc (.cells #[.int .u32 0, .int .u16 0] 26)
              have q9 := row_ep wa 0 0
              have hT2 : ∀ r ∈ T, ¬ r.1.ia = W.ia := fun r hr => hO.not_own (by omega) hWk hr
              replace hP := hPa.alloc (.cells #[.int .u32 0, .int .u16 0] 26)
              have HT := Lib.hid hT2
              have HNO := Lib.hid hno
              clear hua hPa hT2 hno hO hOwn d0 d1 d2 d3 d4 d5 d6 m0 m1 mf
              obtain ⟨d0, d1, d2, d3, d4, d5, d6⟩ := ws_cells hK.wr
              go_wp2_with (first
                | (go_at_call 11; refine (Doc_any _ W).mono ?_; rintro e w2 ⟨rfl, hu2⟩; replace hP := hP.upto hu2; replace hK := hK.no hu2; replace hU := hU.trans hu2; replace q9 := hu2.row q9 (fun h => h.elim); clear d0 d1 d2 d3 d4 d5 d6; obtain ⟨d0, d1, d2, d3, d4, d5, d6⟩ := ws_cells hK.wr; clear hu2)
                | (go_at_call 10; refine (RMay_any _ W true (decide_eq_true hmay)).mono ?_; rintro e w2 ⟨rfl, hu2⟩; replace hP := hP.upto hu2; replace hK := hK.no hu2; replace hU := hU.trans hu2; replace q9 := hu2.row q9 (fun h => h.elim); clear d0 d1 d2 d3 d4 d5 d6; obtain ⟨d0, d1, d2, d3, d4, d5, d6⟩ := ws_cells hK.wr; clear hu2)
                | (go_at_call 12; refine (Tried_any _ W hWk hmay.1 hmay.2).mono ?_; rintro e w2 ⟨vl, rfl, hL, hu2⟩; obtain ⟨g, lc, hvl, hgb, hgl⟩ := own_form hL (tried_pos W hmay); subst hvl; have hLA : LAt w2 g W.tried := ⟨hgl, fun i hi => ucl_cell hL i hi⟩; replace hP := hP.upto hu2; replace hK := hK.no hu2; replace hU := hU.trans hu2; replace q9 := hu2.row q9 (fun h => h.elim); clear d0 d1 d2 d3 d4 d5 d6; obtain ⟨d0, d1, d2, d3, d4, d5, d6⟩ := ws_cells hK.wr; clear hu2 hL hgb))
              have hLm := tried_le W hWk
              go_loopw [12] (fun v wr => ∃ i : Nat, i ≤ W.tried.length ∧ v = .int .i64 i ∧ PsAt wr x rb ob T ∧ (∃ hh, TrF wr w.heap.size w1.heap.size W hh) ∧ wr.rowIs wa.heap.size 26 2 (epF 0 0) ∧ LAt wr g W.tried ∧ Upto NoS w wr) (fun v _ => W.tried.length - (intOf v).toNat)
              case atStart => exact ⟨0, by omega, rfl, hP, ⟨_, hK⟩, q9, hLA, hU⟩
              case round =>
                clear hP hK q9 hLA hU
                obtain ⟨i, hi, rfl, hP, ⟨hh, hK⟩, q9, hLA, hU⟩ := hrel
                by_cases hil : i < W.tried.length
                · obtain ⟨y, hy⟩ : ∃ y, y = W.tried.getD i 0 := ⟨_, rfl⟩
                  have hyc := hLA.2 i hil
                  rw [← hy] at hyc
                  have hy16 : y < 65536 := by
                    have hmem : y ∈ W.tried := by rw [hy]; simp [hil]
                    have := (tried_in W hmay.2 y hmem).2
                    have := hWk.tu
                    omega
                  have bi : decide ((i : Int) < (W.tried.length : Int)) = true := decide_eq_true (by omega)
                  have yi0 : (0 : Int) ≤ (i : Int) := by omega
                  have yi1 : (i : Int) < (W.tried.length : Int) := by omega
                  have HY := Lib.hid hy
                  clear hy
                  obtain ⟨d0, d1, d2, d3, d4, d5, d6⟩ := ws_cells hK.wr
                  have hB := hK.wr.lt
                  have hg := hLA.1
                  have ne1 : ¬ w.heap.size = wr.heap.size := by omega
                  have ne2 : ¬ g = wr.heap.size := by omega
                  have hmem : y ∈ W.tried := by rw [HY.out]; simp [hil]
                  obtain ⟨r, hr⟩ : ∃ r, fO T W.p W.ip y = some r := by
                    have := HNO.out y hmem
                    cases hc : fO T W.p W.ip y with
                    | none => rw [hc] at this; cases this
                    | some r => exact ⟨r, rfl⟩
                  have hr2 := hr
                  have hrT := HT.out r (PsAt.fO_mem hr).1
                  have bne : ((r.1.ia : Int) == (W.ia : Int)) = false := by rw [beq_eq_false_iff_ne]; omega
                  have HR2 := Lib.hid hr2
                  clear hr hr2 hmem
                  go_upto_block 3 with (fail)
                  refine of_onlyNR ?_
                  refine round_other hP hK.wr hWk HR2.out hy16 hrT hyc hil ?_
                  intro d4 d13 d14 d105 d106 d107 d108 d109 d110 d111 d112 d113 d114 d115 d116 d117 d118 d119 d120 d121 d122 d123 d124 d125 d126 d127 d128 d129 d130 d131 d132 d133 d134 d135 d136 d137 d138 d139 d140 d141 d142 d143 d144 d145 d146 w3 hu3
                  go_wp2_with fail
                  go_roundw
                  case rel => first | exact ⟨i + 1, by omega, by go_num, hP.upto hu3, ⟨_, hK.no hu3⟩, hu3.row q9 (fun h => h.elim), hLA.no hu3, hU.trans hu3⟩ | ((repeat apply Exists.intro); refine ⟨?_, rfl⟩; exact ⟨i + 1, by omega, by go_num, hP.upto hu3, ⟨_, hK.no hu3⟩, hu3.row q9 (fun h => h.elim), hLA.no hu3, hU.trans hu3⟩)
                  case measure => simp [intOf]; omega
                · have bi : decide ((i : Int) < (W.tried.length : Int)) = false := decide_eq_false (by omega)
                  obtain ⟨r0, r1⟩ := ep2 q9
                  go_wp2_with (go_at_call 8; refine (let_any _).mono ?_; rintro e w9 ⟨rfl, hu9⟩)
                  go_ret
                  exact ⟨rfl, hU.trans hu9⟩
          · clear hz hM
            go_wp2_with fail
            refine (Take_arg _ x rb ob T W hP hmay).mono ?_
            rintro e wa ⟨rfl, hua⟩
            replace hK := (hK.no hua).no ((Upto.refl NoS wa).alloc (.cells #[.int .u32 0, .int .u16 0] 26))
            replace hU := (hU.trans hua).alloc (.cells #[.int .u32 0, .int .u16 0] 26)
            have q9 := row_ep wa 0 0
            clear hP hua d0 d1 d2 d3 d4 d5 d6 m0 m1 mf
            obtain ⟨d0, d1, d2, d3, d4, d5, d6⟩ := ws_cells hK.wr
            obtain ⟨r0, r1⟩ := ep2 q9
            go_wp2_with (first
              | (go_at_call 11; refine (Doc_any _ W).mono ?_; rintro e w2 ⟨rfl, hu2⟩; replace hK := hK.no hu2; replace hU := hU.trans hu2; replace q9 := hu2.row q9 (fun h => h.elim); clear hu2 d0 d1 d2 d3 d4 d5 d6 r0 r1; obtain ⟨d0, d1, d2, d3, d4, d5, d6⟩ := ws_cells hK.wr; obtain ⟨r0, r1⟩ := ep2 q9)
              | (go_at_call 10; refine (RMay_any _ W false (decide_eq_false hmay)).mono ?_; rintro e w2 ⟨rfl, hu2⟩; replace hK := hK.no hu2; replace hU := hU.trans hu2; replace q9 := hu2.row q9 (fun h => h.elim); clear hu2 d0 d1 d2 d3 d4 d5 d6 r0 r1; obtain ⟨d0, d1, d2, d3, d4, d5, d6⟩ := ws_cells hK.wr; obtain ⟨r0, r1⟩ := ep2 q9)
              | (go_at_call 8; refine (let_any _).mono ?_; rintro e w2 ⟨rfl, hu2⟩; replace hU := hU.trans hu2))
            go_ret
            exact ⟨rfl, hU⟩
    · have b1 : decide ((3000 : Int) < (W0.tu : Int) - W0.fr) = false := decide_eq_false hbig
      go_enter Try.func3, Try.ntmps3
      go_wp2_with (go_at_call 9; refine (New_any _).mono ?_; rintro e w1 ⟨x, rb, ob, rfl, h1, u1, hx, hrb, hob⟩; have hR1 := u1.row hR0 (fun h => h.elim); obtain ⟨e0, e1, e2, e3, e4, e5, e6⟩ := ws_cells hR1; have hrb' := hrb; have hb1 := h1.rows.lt; have hb2 := h1.of_.lt; have hx1 := h1.lt; simp only [World.size_alloc] at hrb hob hx)
      obtain ⟨W, hWd⟩ : ∃ W : Ws, W = W0 := ⟨_, rfl⟩
      have hWk : W.Ok := by rw [hWd]; exact ⟨o1, o2, o3, o4, o5, o6, o7⟩
      rw [← hWd] at hR1
      have hK0 : TrF (w1.alloc (.cells #[.int .u32 (W0.ia : Nat), .int .u16 (W0.ib : Nat)] 26)) w.heap.size w1.heap.size W ((W.ia + 0) % 4294967296) := by
        refine ⟨hR1.alloc _, ?_⟩
        have := row_ep w1 (W0.ia : Nat) (W0.ib : Nat)
        rwa [show (W.ia + 0) % 4294967296 = W0.ia by rw [hWd, Nat.add_zero, Nat.mod_eq_of_lt o2], show W.ib = W0.ib by rw [hWd]]
      have hP0 := h1.alloc (.cells #[.int .u32 (W0.ia : Nat), .int .u16 (W0.ib : Nat)] 26)
      have hU0 := (u0.trans u1).alloc (.cells #[.int .u32 (W0.ia : Nat), .int .u16 (W0.ib : Nat)] 26)
      have hs0 : w1.heap.size + 1 ≤ (w1.alloc (.cells #[.int .u32 (W0.ia : Nat), .int .u16 (W0.ib : Nat)] 26)).heap.size := by simp
      have hO0 : Oth W 0 [] := ⟨by simp, by simp⟩
      have hwl : w.heap.size + 1 ≤ w1.heap.size := by have := u1.size; simpa using this
      clear hR1 h1 u1 e0 e1 e2 e3 e4 e5 e6 hR0 d0 d1 d2 d3 d4 d5 d6 f5 b1 hWd
      go_loopw [7] (fun v wr => ∃ (j : Nat) (T : List (Rw × Nat)), j ≤ len ∧ v = .int .i64 j ∧ PsAt wr x rb ob T ∧ TrF wr w.heap.size w1.heap.size W ((W.ia + j) % 4294967296) ∧ Oth W j T ∧ (¬ W.may → j = 0) ∧ Upto NoS w wr ∧ w1.heap.size + 1 ≤ wr.heap.size) (fun v _ => len - (intOf v).toNat)
      case atStart => exact ⟨0, [], by omega, rfl, hP0, hK0, hO0, fun _ => rfl, hU0, hs0⟩
      case round =>
        clear hP0 hK0 hO0 hU0 hs0
        obtain ⟨j, T, hj, rfl, hP, hK, hO, hM, hU, hs⟩ := hrel
        obtain ⟨v0, hv0⟩ : ∃ v0, v0 = (W.ia + j) % 4294967296 := ⟨_, rfl⟩
        rw [← hv0] at hK
        have HV0 := Lib.hid hv0
        clear hv0
        obtain ⟨d0, d1, d2, d3, d4, d5, d6⟩ := ws_cells hK.wr
        obtain ⟨m0, m1⟩ := ep2 hK.hd
        have mf := hK.hd.frozen 0
        have hx2 := hP.lt
        by_cases hlt : j < len
        · by_cases hmay : W.may
          · obtain ⟨hzj, bo, off, ha, hbo, hzc⟩ := hz j hlt
            replace hzc := hU.keep hzc id
            have hj40 : j ≤ 40 := by omega
            have hw := wrap32 (W.ia + j)
            rw [show W.ia + j + 1 = W.ia + (j + 1) from rfl] at hw
            obtain ⟨v1, hv1⟩ : ∃ v1, v1 = (W.ia + (j + 1)) % 4294967296 := ⟨_, rfl⟩
            rw [← HV0.out, ← hv1] at hw
            have hne : ((v1 : Int) == (W.ia : Int)) = false := by
              have := hWk.ia
              rw [beq_eq_false_iff_ne]; omega
            have HV1 := Lib.hid hv1
            clear hv1
            subst ha
            clear hz
            go_wp2_with (first
              | (go_at_call 11; refine (Doc_any _ W).mono ?_; rintro e w2 ⟨rfl, hu2⟩; replace hP := hP.upto hu2; replace hK := hK.no hu2; replace hU := hU.trans hu2; replace hzc := hu2.keep hzc id; replace hs := Nat.le_trans hs hu2.size; clear hu2 d0 d1 d2 d3 d4 d5 d6 m0 m1 mf; obtain ⟨d0, d1, d2, d3, d4, d5, d6⟩ := ws_cells hK.wr; obtain ⟨m0, m1⟩ := ep2 hK.hd; have mf := hK.hd.frozen 0)
              | (go_at_call 10; refine (RMay_any _ W true (decide_eq_true hmay)).mono ?_; rintro e w2 ⟨rfl, hu2⟩; replace hP := hP.upto hu2; replace hK := hK.no hu2; replace hU := hU.trans hu2; replace hzc := hu2.keep hzc id; replace hs := Nat.le_trans hs hu2.size; clear hu2 d0 d1 d2 d3 d4 d5 d6 m0 m1 mf; obtain ⟨d0, d1, d2, d3, d4, d5, d6⟩ := ws_cells hK.wr; obtain ⟨m0, m1⟩ := ep2 hK.hd; have mf := hK.hd.frozen 0)
              | (go_at_call 12; refine (Tried_any _ W hWk hmay.1 hmay.2).mono ?_; rintro e w2 ⟨vl, rfl, hL, hu2⟩; obtain ⟨g, lc, hvl, hgb, hgl⟩ := own_form hL (tried_pos W hmay); subst hvl; have hgr := hP.rows.lt; have hgo := hP.of_.lt; replace hP := hP.upto hu2; replace hK := hK.no hu2; replace hU := hU.trans hu2; replace hzc := hu2.keep hzc id; clear d0 d1 d2 d3 d4 d5 d6 m0 m1 mf; obtain ⟨d0, d1, d2, d3, d4, d5, d6⟩ := ws_cells hK.wr; obtain ⟨m0, m1⟩ := ep2 hK.hd; have mf := hK.hd.frozen 0))
            have hg1 : rb < g ∧ ob < g := ⟨by omega, by omega⟩
            clear hgr hgo
            have hLl := tried_pos W hmay
            have hLm := tried_le W hWk
            have hq : z j % W.tried.length < W.tried.length := Nat.mod_lt _ hLl
            obtain ⟨q, hqd⟩ : ∃ q, q = W.tried.getD (z j % W.tried.length) 0 := ⟨_, rfl⟩
            have hlc := ucl_cell hL _ hq
            rw [← hqd] at hlc
            have hql : q < 65536 := by
              have hmem : q ∈ W.tried := by rw [hqd]; simp [hq]
              have := (tried_in W hmay.2 q hmem).2
              have := hWk.tu
              omega
            have ex : ((z j : Nat) : Int) % (W.tried.length : Int) = ((z j % W.tried.length : Nat) : Int) := by push_cast; rfl
            have uH := (Upto.refl (fun i => i = w1.heap.size) w2).setB (b := w1.heap.size) (o := 0) rfl (.int .u32 (v1 : Nat))
            have hP2 := hP.gen uH (fun i hi hs => by
              have hi : i = w1.heap.size := hi
              have n1 := hP.rows.ne_row hK.hd
              have n2 := hP.of_.ne_row hK.hd
              rcases hs with e1 | e1 | e1 | ⟨r, hr, e1⟩
              · omega
              · omega
              · omega
              · obtain ⟨A, hA, _⟩ := hK.hd
                obtain ⟨A2, hA2, _⟩ := hP.blk r hr
                rw [e1, hi, hA] at hA2
                simp at hA2)
            have hK2 := hK.set (show w.heap.size ≠ w1.heap.size by omega) v1
            have hU2 := hU.trans' uH (fun i hi (e : i = w1.heap.size) => by omega)
            have hzc2 := uH.keep hzc (fun (e : bo = w1.heap.size) => by omega)
            have hlc2 := uH.keep hlc (fun (e : g = w1.heap.size) => by have := hu2.size; omega)
            have hs2 : w1.heap.size + 1 ≤ (w2.setCell ⟨w1.heap.size, 0, none⟩ (.int .u32 (v1 : Nat))).heap.size := by have := hu2.size; simp; omega
            generalize hWs : w2.setCell ⟨w1.heap.size, 0, none⟩ (.int .u32 (v1 : Nat)) = Ws1 at hP2 hK2 hU2 hzc2 hlc2 hs2 ⊢
            clear hP hK hU hzc hlc d0 d1 d2 d3 d4 d5 d6 m0 m1 mf uH hWs hL hu2 hgb hgl
            obtain ⟨d0, d1, d2, d3, d4, d5, d6⟩ := ws_cells hK2.wr
            obtain ⟨m0, m1⟩ := ep2 hK2.hd
            have hI := hO.noI hj40 hWk (k := j + 1) (.inr (by omega)) (by omega)
            have hia : v1 < 4294967296 := by rw [HV1.out]; exact Nat.mod_lt _ (by omega)
            rw [← HV1.out] at hI
            have hTm := hO.many
            have y0 : (0 : Int) ≤ (j : Int) := by omega
            have y1 : (j : Int) < (len : Int) := by omega
            have y2 : (0 : Int) ≤ ((z j % W.tried.length : Nat) : Int) := by omega
            have y3 : ((z j % W.tried.length : Nat) : Int) < (W.tried.length : Int) := by omega
            have y4 : ((W.tried.length : Int) == 0) = false := by rw [beq_eq_false_iff_ne]; omega
            have HO := Lib.hid hO
            clear hO hqd
            have hL0 : ¬ ((W.tried.length : Nat) : Int) = 0 := by omega
            have hL1 : ¬ W.tried.length = 0 := by omega
            generalize hLd : W.tried.length = L at hlc2 hq y2 y3 y4 ex hLl hLm hL0 hL1 ⊢
            clear hLd
            generalize hqi : z j % L = qi at hlc2 hq y2 y3 ex
            have hwz : IntKind.i64.wrap ((z j : Nat) : Int) = ((z j : Nat) : Int) := IntWalk.i64_in _ (by omega)
            have hwt : ((z j : Nat) : Int).tmod (L : Int) = (qi : Int) := by rw [Int.tmod_eq_emod_of_nonneg (by omega), ex]
            clear hqi ex
            cases hf : fO T W.p W.ip q with
            | some r =>
              have HF := Lib.hid hf
              clear hf
              go_region_held3 (fun w' => w'.cell? ⟨w.heap.size, 0, none⟩ = some (.int .u8 (W.p : Nat)) ∧ w'.cell? ⟨w.heap.size, 3, none⟩ = some (.int .u32 (W.ip : Nat)) ∧ w'.cell? ⟨w1.heap.size, 0, none⟩ = some (.int .u32 (v1 : Nat)) ∧ w'.cell? ⟨w1.heap.size, 1, none⟩ = some (.int .u16 (W.ib : Nat)) ∧ w'.cell? ⟨bo, off + j, none⟩ = some (.int .u16 (z j : Nat)) ∧ w'.cell? ⟨g, qi, none⟩ = some (.int .u16 (q : Nat)))
                (first | exact ⟨d0, d3, m0, m1, hzc2, hlc2⟩ | exact ⟨hu3.keep d0 id, hu3.keep d3 id, hu3.keep m0 id, hu3.keep m1 id, hu3.keep hzc2 id, hu3.keep hlc2 id⟩)
                (first | (go_at_call 13; refine (Fix_busy _ x rb ob T W.p _ W.ib W.ip q r hP2.drew hWk.p hia hWk.ib hWk.ip hql hI HF.out).mono ?_; rintro e w3 ⟨rfl, hu3⟩))
              have hud := (Upto.refl NoS Ws1).drew.trans hu3
              go_wp2_with fail
              go_roundw
              case rel => first | exact ⟨j + 1, T, by omega, by go_num, hP2.upto hud, by rw [← HV1.out]; exact hK2.no hud, HO.out.next, fun h => absurd hmay h, hU2.trans hud, Nat.le_trans hs2 hud.size⟩ | ((repeat apply Exists.intro); refine ⟨?_, rfl⟩; exact ⟨j + 1, T, by omega, by go_num, hP2.upto hud, by rw [← HV1.out]; exact hK2.no hud, HO.out.next, fun h => absurd hmay h, hU2.trans hud, Nat.le_trans hs2 hud.size⟩)
              case measure => simp [intOf]; omega
            | none =>
              have HF := Lib.hid hf
              clear hf
              go_region_held3 (fun w' => w'.cell? ⟨w.heap.size, 0, none⟩ = some (.int .u8 (W.p : Nat)) ∧ w'.cell? ⟨w.heap.size, 3, none⟩ = some (.int .u32 (W.ip : Nat)) ∧ w'.cell? ⟨w1.heap.size, 0, none⟩ = some (.int .u32 (v1 : Nat)) ∧ w'.cell? ⟨w1.heap.size, 1, none⟩ = some (.int .u16 (W.ib : Nat)) ∧ w'.cell? ⟨bo, off + j, none⟩ = some (.int .u16 (z j : Nat)) ∧ w'.cell? ⟨g, qi, none⟩ = some (.int .u16 (q : Nat)))
                (first | exact ⟨d0, d3, m0, m1, hzc2, hlc2⟩ | exact ⟨hu3.keep d0 (fun (e : w.heap.size = rb ∨ w.heap.size = ob) => by omega), hu3.keep d3 (fun (e : w.heap.size = rb ∨ w.heap.size = ob) => by omega), hu3.keep m0 (fun (e : w1.heap.size = rb ∨ w1.heap.size = ob) => by omega), hu3.keep m1 (fun (e : w1.heap.size = rb ∨ w1.heap.size = ob) => by omega), hu3.keep hzc2 (fun (e : bo = rb ∨ bo = ob) => by omega), hu3.keep hlc2 (fun (e : g = rb ∨ g = ob) => by omega)⟩)
                (first | (go_at_call 13; refine (Fix_new _ x rb ob T W.p _ W.ib W.ip q hP2.drew hWk.p hia hWk.ib hWk.ip hql hI HF.out (by omega)).mono ?_; rintro e w3 ⟨rfl, k3, hk3, hP3, hu3⟩))
              have hud := ((Upto.refl NoS Ws1).drew.mono (T := fun i => i = rb ∨ i = ob) (fun _ _ h => h.elim)).trans hu3
              have hK3 := hK2.upto hud (fun i (hi : i = rb ∨ i = ob) => by omega)
              have hO3 := HO.out.add q W.ib k3
              rw [← HV1.out] at hO3
              have HO3 := Lib.hid hO3
              clear hO3
              go_wp2_with fail
              go_roundw
              case rel => first | exact ⟨j + 1, _, by omega, by go_num, hP3, by rw [← HV1.out]; exact hK3, HO3.out, fun h => absurd hmay h, hU2.trans' hud (fun i hi (e : i = rb ∨ i = ob) => by omega), Nat.le_trans hs2 hud.size⟩ | ((repeat apply Exists.intro); refine ⟨?_, rfl⟩; exact ⟨j + 1, _, by omega, by go_num, hP3, by rw [← HV1.out]; exact hK3, HO3.out, fun h => absurd hmay h, hU2.trans' hud (fun i hi (e : i = rb ∨ i = ob) => by omega), Nat.le_trans hs2 hud.size⟩)
              case measure => simp [intOf]; omega
          · obtain rfl := hM hmay
            clear hz hM
            go_wp2_with (first
              | (go_at_call 11; refine (Doc_any _ W).mono ?_; rintro e w2 ⟨rfl, hu2⟩; replace hP := hP.upto hu2; replace hK := hK.no hu2; replace hU := hU.trans hu2; replace hs := Nat.le_trans hs hu2.size; clear hu2 d0 d1 d2 d3 d4 d5 d6 m0 m1 mf; obtain ⟨d0, d1, d2, d3, d4, d5, d6⟩ := ws_cells hK.wr; obtain ⟨m0, m1⟩ := ep2 hK.hd; have mf := hK.hd.frozen 0)
              | (go_at_call 10; refine (RMay_any _ W false (decide_eq_false hmay)).mono ?_; rintro e w2 ⟨rfl, hu2⟩; replace hP := hP.upto hu2; replace hK := hK.no hu2; replace hU := hU.trans hu2; replace hs := Nat.le_trans hs hu2.size; clear hu2 d0 d1 d2 d3 d4 d5 d6 m0 m1 mf; obtain ⟨d0, d1, d2, d3, d4, d5, d6⟩ := ws_cells hK.wr; obtain ⟨m0, m1⟩ := ep2 hK.hd; have mf := hK.hd.frozen 0)
              | fail)
            refine (Take_arg _ x rb ob T W hP hmay).mono ?_
            rintro e wa ⟨rfl, hua⟩
            replace hK := (hK.no hua).no ((Upto.refl NoS wa).alloc (.cells #[.int .u32 0, .int .u16 0] 26))
            replace hU := (hU.trans hua).alloc (.cells #[.int .u32 0, .int .u16 0] 26)
            have q9 := row_ep wa 0 0
            clear hP hua d0 d1 d2 d3 d4 d5 d6 m0 m1 mf
            obtain ⟨d0, d1, d2, d3, d4, d5, d6⟩ := ws_cells hK.wr
            obtain ⟨r0, r1⟩ := ep2 q9
            go_wp2_with (first
              | (go_at_call 11; refine (Doc_any _ W).mono ?_; rintro e w2 ⟨rfl, hu2⟩; replace hK := hK.no hu2; replace hU := hU.trans hu2; replace q9 := hu2.row q9 (fun h => h.elim); clear hu2 d0 d1 d2 d3 d4 d5 d6 r0 r1; obtain ⟨d0, d1, d2, d3, d4, d5, d6⟩ := ws_cells hK.wr; obtain ⟨r0, r1⟩ := ep2 q9)
              | (go_at_call 10; refine (RMay_any _ W false (decide_eq_false hmay)).mono ?_; rintro e w2 ⟨rfl, hu2⟩; replace hK := hK.no hu2; replace hU := hU.trans hu2; replace q9 := hu2.row q9 (fun h => h.elim); clear hu2 d0 d1 d2 d3 d4 d5 d6 r0 r1; obtain ⟨d0, d1, d2, d3, d4, d5, d6⟩ := ws_cells hK.wr; obtain ⟨r0, r1⟩ := ep2 q9)
              | (go_at_call 8; refine (let_any _).mono ?_; rintro e w2 ⟨rfl, hu2⟩; replace hU := hU.trans hu2))
            go_ret
            exact ⟨rfl, hU⟩
        · have hjl : j = len := by omega
          by_cases hmay : W.may
          · have hOwn := hO.own (by omega) hWk
            have hTm := hO.many
            clear hz hM
            go_wp2_with fail
            refine (Take_new _ x rb ob T W hP hWk hmay hOwn (by omega)).mono ?_
            rintro e wa (⟨q, k, pre, rest, ht, hf, hno, rfl, hk, hPa, hua⟩ | ⟨hno, rfl, hPa, hua⟩)
            · replace hK := (hK.upto hua (fun i (hi : i = rb ∨ i = ob) => by omega)).no ((Upto.refl NoS wa).alloc (.cells #[.int .u32 (W.ip : Nat), .int .u16 (q : Nat)] 26))
              replace hU := (hU.trans' hua (fun i hi (e : i = rb ∨ i = ob) => by omega)).alloc (.cells #[.int .u32 (W.ip : Nat), .int .u16 (q : Nat)] 26)
              have q9 := row_ep wa (W.ip : Nat) (q : Nat)
              have hT2 : ∀ r ∈ T, ¬ r.1.ia = W.ia := fun r hr => hO.not_own (by omega) hWk hr
              replace hP := hPa.alloc (.cells #[.int .u32 (W.ip : Nat), .int .u16 (q : Nat)] 26)
              have HT := Lib.hid hT2
              have HNO := Lib.hid hno
              have HF := Lib.hid hf
              have HTT := Lib.hid ht
              clear hua hPa hT2 hno hf ht hO hOwn d0 d1 d2 d3 d4 d5 d6 m0 m1 mf
              obtain ⟨d0, d1, d2, d3, d4, d5, d6⟩ := ws_cells hK.wr
              go_wp2_with (first
                | (go_at_call 11; refine (Doc_any _ W).mono ?_; rintro e w2 ⟨rfl, hu2⟩; replace hP := hP.upto hu2; replace hK := hK.no hu2; replace hU := hU.trans hu2; replace q9 := hu2.row q9 (fun h => h.elim); clear d0 d1 d2 d3 d4 d5 d6; obtain ⟨d0, d1, d2, d3, d4, d5, d6⟩ := ws_cells hK.wr; clear hu2)
                | (go_at_call 10; refine (RMay_any _ W true (decide_eq_true hmay)).mono ?_; rintro e w2 ⟨rfl, hu2⟩; replace hP := hP.upto hu2; replace hK := hK.no hu2; replace hU := hU.trans hu2; replace q9 := hu2.row q9 (fun h => h.elim); clear d0 d1 d2 d3 d4 d5 d6; obtain ⟨d0, d1, d2, d3, d4, d5, d6⟩ := ws_cells hK.wr; clear hu2)
                | (go_at_call 12; refine (Tried_any _ W hWk hmay.1 hmay.2).mono ?_; rintro e w2 ⟨vl, rfl, hL, hu2⟩; obtain ⟨g, lc, hvl, hgb, hgl⟩ := own_form hL (tried_pos W hmay); subst hvl; have hLA : LAt w2 g W.tried := ⟨hgl, fun i hi => ucl_cell hL i hi⟩; replace hP := hP.upto hu2; replace hK := hK.no hu2; replace hU := hU.trans hu2; replace q9 := hu2.row q9 (fun h => h.elim); clear d0 d1 d2 d3 d4 d5 d6; obtain ⟨d0, d1, d2, d3, d4, d5, d6⟩ := ws_cells hK.wr; clear hu2 hL hgb))
              have hLm := tried_le W hWk
              go_loopw [12] (fun v wr => ∃ i : Nat, i ≤ pre.length ∧ v = .int .i64 i ∧ PsAt wr x rb ob (T ++ [(newR W.p W.ip q W.ia W.ib, k)]) ∧ (∃ hh, TrF wr w.heap.size w1.heap.size W hh) ∧ wr.rowIs wa.heap.size 26 2 (epF (W.ip : Nat) (q : Nat)) ∧ LAt wr g W.tried ∧ Upto NoS w wr) (fun v _ => W.tried.length - (intOf v).toNat)
              case atStart => exact ⟨0, by omega, rfl, hP, ⟨_, hK⟩, q9, hLA, hU⟩
              case round =>
                clear hP hK q9 hLA hU
                obtain ⟨i, hi, rfl, hP, ⟨hh, hK⟩, q9, hLA, hU⟩ := hrel
                have hil : i < W.tried.length := by rw [HTT.out]; simp; omega
                obtain ⟨y, hy⟩ : ∃ y, y = W.tried.getD i 0 := ⟨_, rfl⟩
                have hyc := hLA.2 i hil
                rw [← hy] at hyc
                have hy16 : y < 65536 := by
                  have hmem : y ∈ W.tried := by rw [hy]; simp [hil]
                  have := (tried_in W hmay.2 y hmem).2
                  have := hWk.tu
                  omega
                have bi : decide ((i : Int) < (W.tried.length : Int)) = true := decide_eq_true (by omega)
                have yi0 : (0 : Int) ≤ (i : Int) := by omega
                have yi1 : (i : Int) < (W.tried.length : Int) := by omega
                have HY := Lib.hid hy
                clear hy
                obtain ⟨d0, d1, d2, d3, d4, d5, d6⟩ := ws_cells hK.wr
                have hB := hK.wr.lt
                have hg := hLA.1
                have ne1 : ¬ w.heap.size = wr.heap.size := by omega
                have ne2 : ¬ g = wr.heap.size := by omega
                by_cases hip : i < pre.length
                · have hmem : y ∈ pre := by rw [HY.out, HTT.out, List.getD_eq_getElem?_getD, List.getElem?_append_left hip, List.getElem?_eq_getElem hip]; exact List.getElem_mem hip
                  obtain ⟨r, hr⟩ : ∃ r, fO T W.p W.ip y = some r := by
                    have := HNO.out y hmem
                    cases hc : fO T W.p W.ip y with
                    | none => rw [hc] at this; cases this
                    | some r => exact ⟨r, rfl⟩
                  have hr2 : fO (T ++ [(newR W.p W.ip q W.ia W.ib, k)]) W.p W.ip y = some r := by rw [fO_append, hr]; rfl
                  have hrT := HT.out r (PsAt.fO_mem hr).1
                  have bne : ((r.1.ia : Int) == (W.ia : Int)) = false := by rw [beq_eq_false_iff_ne]; omega
                  have HR2 := Lib.hid hr2
                  clear hr hr2 hmem
                  go_upto_block 3 with (fail)
                  refine of_onlyNR ?_
                  refine round_other hP hK.wr hWk HR2.out hy16 hrT hyc hil ?_
                  intro d4 d13 d14 d105 d106 d107 d108 d109 d110 d111 d112 d113 d114 d115 d116 d117 d118 d119 d120 d121 d122 d123 d124 d125 d126 d127 d128 d129 d130 d131 d132 d133 d134 d135 d136 d137 d138 d139 d140 d141 d142 d143 d144 d145 d146 w3 hu3
                  go_wp2_with fail
                  go_roundw
                  case rel => first | exact ⟨i + 1, by omega, by go_num, hP.upto hu3, ⟨_, hK.no hu3⟩, hu3.row q9 (fun h => h.elim), hLA.no hu3, hU.trans hu3⟩ | ((repeat apply Exists.intro); refine ⟨?_, rfl⟩; exact ⟨i + 1, by omega, by go_num, hP.upto hu3, ⟨_, hK.no hu3⟩, hu3.row q9 (fun h => h.elim), hLA.no hu3, hU.trans hu3⟩)
                  case measure => simp [intOf]; omega
                · have hil2 : i = pre.length := by omega
                  have hyq : y = q := by rw [HY.out, HTT.out, hil2]; simp
                  subst hyq
                  have hr2 : fO (T ++ [(newR W.p W.ip y W.ia W.ib, k)]) W.p W.ip y = some (⟨W.p, W.ip, y, W.ia, W.ib, 0, 1⟩, k) := by rw [fO_append, HF.out]; simp [newR]
                  have HR2 := Lib.hid hr2
                  clear hr2
                  go_upto_block 3 with (fail)
                  refine of_onlyNR ?_
                  refine round_own hP hK.wr hWk HR2.out hy16 q9 hyc hil ?_
                  intro act w3 h4 hd4 hu3
                  (try simp only [Exit.inBlock, Exit.then])
                  exact bodyPost_ret (by rw [← h4]; exact results_tmp rfl _ _ _) hd4 ⟨rfl, hU.trans hu3⟩
            · replace hK := (hK.no hua).no ((Upto.refl NoS wa).alloc (.cells #[.int .u32 0, .int .u16 0] 26))
              replace hU := (hU.trans hua).alloc (.cells #[.int .u32 0, .int .u16 0] 26)
              have q9 := row_ep wa 0 0
              have hT2 : ∀ r ∈ T, ¬ r.1.ia = W.ia := fun r hr => hO.not_own (by omega) hWk hr
              replace hP := hPa.alloc (.cells #[.int .u32 0, .int .u16 0] 26)
              have HT := Lib.hid hT2
              have HNO := Lib.hid hno
              clear hua hPa hT2 hno hO hOwn d0 d1 d2 d3 d4 d5 d6 m0 m1 mf
              obtain ⟨d0, d1, d2, d3, d4, d5, d6⟩ := ws_cells hK.wr
              go_wp2_with (first
                | (go_at_call 11; refine (Doc_any _ W).mono ?_; rintro e w2 ⟨rfl, hu2⟩; replace hP := hP.upto hu2; replace hK := hK.no hu2; replace hU := hU.trans hu2; replace q9 := hu2.row q9 (fun h => h.elim); clear d0 d1 d2 d3 d4 d5 d6; obtain ⟨d0, d1, d2, d3, d4, d5, d6⟩ := ws_cells hK.wr; clear hu2)
                | (go_at_call 10; refine (RMay_any _ W true (decide_eq_true hmay)).mono ?_; rintro e w2 ⟨rfl, hu2⟩; replace hP := hP.upto hu2; replace hK := hK.no hu2; replace hU := hU.trans hu2; replace q9 := hu2.row q9 (fun h => h.elim); clear d0 d1 d2 d3 d4 d5 d6; obtain ⟨d0, d1, d2, d3, d4, d5, d6⟩ := ws_cells hK.wr; clear hu2)
                | (go_at_call 12; refine (Tried_any _ W hWk hmay.1 hmay.2).mono ?_; rintro e w2 ⟨vl, rfl, hL, hu2⟩; obtain ⟨g, lc, hvl, hgb, hgl⟩ := own_form hL (tried_pos W hmay); subst hvl; have hLA : LAt w2 g W.tried := ⟨hgl, fun i hi => ucl_cell hL i hi⟩; replace hP := hP.upto hu2; replace hK := hK.no hu2; replace hU := hU.trans hu2; replace q9 := hu2.row q9 (fun h => h.elim); clear d0 d1 d2 d3 d4 d5 d6; obtain ⟨d0, d1, d2, d3, d4, d5, d6⟩ := ws_cells hK.wr; clear hu2 hL hgb))
              have hLm := tried_le W hWk
              go_loopw [12] (fun v wr => ∃ i : Nat, i ≤ W.tried.length ∧ v = .int .i64 i ∧ PsAt wr x rb ob T ∧ (∃ hh, TrF wr w.heap.size w1.heap.size W hh) ∧ wr.rowIs wa.heap.size 26 2 (epF 0 0) ∧ LAt wr g W.tried ∧ Upto NoS w wr) (fun v _ => W.tried.length - (intOf v).toNat)
              case atStart => exact ⟨0, by omega, rfl, hP, ⟨_, hK⟩, q9, hLA, hU⟩
              case round =>
                clear hP hK q9 hLA hU
                obtain ⟨i, hi, rfl, hP, ⟨hh, hK⟩, q9, hLA, hU⟩ := hrel
                by_cases hil : i < W.tried.length
                · obtain ⟨y, hy⟩ : ∃ y, y = W.tried.getD i 0 := ⟨_, rfl⟩
                  have hyc := hLA.2 i hil
                  rw [← hy] at hyc
                  have hy16 : y < 65536 := by
                    have hmem : y ∈ W.tried := by rw [hy]; simp [hil]
                    have := (tried_in W hmay.2 y hmem).2
                    have := hWk.tu
                    omega
                  have bi : decide ((i : Int) < (W.tried.length : Int)) = true := decide_eq_true (by omega)
                  have yi0 : (0 : Int) ≤ (i : Int) := by omega
                  have yi1 : (i : Int) < (W.tried.length : Int) := by omega
                  have HY := Lib.hid hy
                  clear hy
                  obtain ⟨d0, d1, d2, d3, d4, d5, d6⟩ := ws_cells hK.wr
                  have hB := hK.wr.lt
                  have hg := hLA.1
                  have ne1 : ¬ w.heap.size = wr.heap.size := by omega
                  have ne2 : ¬ g = wr.heap.size := by omega
                  have hmem : y ∈ W.tried := by rw [HY.out]; simp [hil]
                  obtain ⟨r, hr⟩ : ∃ r, fO T W.p W.ip y = some r := by
                    have := HNO.out y hmem
                    cases hc : fO T W.p W.ip y with
                    | none => rw [hc] at this; cases this
                    | some r => exact ⟨r, rfl⟩
                  have hr2 := hr
                  have hrT := HT.out r (PsAt.fO_mem hr).1
                  have bne : ((r.1.ia : Int) == (W.ia : Int)) = false := by rw [beq_eq_false_iff_ne]; omega
                  have HR2 := Lib.hid hr2
                  clear hr hr2 hmem
                  go_upto_block 3 with (fail)
                  refine of_onlyNR ?_
                  refine round_other hP hK.wr hWk HR2.out hy16 hrT hyc hil ?_
                  intro d4 d13 d14 d105 d106 d107 d108 d109 d110 d111 d112 d113 d114 d115 d116 d117 d118 d119 d120 d121 d122 d123 d124 d125 d126 d127 d128 d129 d130 d131 d132 d133 d134 d135 d136 d137 d138 d139 d140 d141 d142 d143 d144 d145 d146 w3 hu3
                  go_wp2_with fail
                  go_roundw
                  case rel => first | exact ⟨i + 1, by omega, by go_num, hP.upto hu3, ⟨_, hK.no hu3⟩, hu3.row q9 (fun h => h.elim), hLA.no hu3, hU.trans hu3⟩ | ((repeat apply Exists.intro); refine ⟨?_, rfl⟩; exact ⟨i + 1, by omega, by go_num, hP.upto hu3, ⟨_, hK.no hu3⟩, hu3.row q9 (fun h => h.elim), hLA.no hu3, hU.trans hu3⟩)
                  case measure => simp [intOf]; omega
                · have bi : decide ((i : Int) < (W.tried.length : Int)) = false := decide_eq_false (by omega)
                  obtain ⟨r0, r1⟩ := ep2 q9
                  go_wp2_with (go_at_call 8; refine (let_any _).mono ?_; rintro e w9 ⟨rfl, hu9⟩)
                  go_ret
                  exact ⟨rfl, hU.trans hu9⟩
          · clear hz hM
            go_wp2_with fail
            refine (Take_arg _ x rb ob T W hP hmay).mono ?_
            rintro e wa ⟨rfl, hua⟩
            replace hK := (hK.no hua).no ((Upto.refl NoS wa).alloc (.cells #[.int .u32 0, .int .u16 0] 26))
            replace hU := (hU.trans hua).alloc (.cells #[.int .u32 0, .int .u16 0] 26)
            have q9 := row_ep wa 0 0
            clear hP hua d0 d1 d2 d3 d4 d5 d6 m0 m1 mf
            obtain ⟨d0, d1, d2, d3, d4, d5, d6⟩ := ws_cells hK.wr
            obtain ⟨r0, r1⟩ := ep2 q9
            go_wp2_with (first
              | (go_at_call 11; refine (Doc_any _ W).mono ?_; rintro e w2 ⟨rfl, hu2⟩; replace hK := hK.no hu2; replace hU := hU.trans hu2; replace q9 := hu2.row q9 (fun h => h.elim); clear hu2 d0 d1 d2 d3 d4 d5 d6 r0 r1; obtain ⟨d0, d1, d2, d3, d4, d5, d6⟩ := ws_cells hK.wr; obtain ⟨r0, r1⟩ := ep2 q9)
              | (go_at_call 10; refine (RMay_any _ W false (decide_eq_false hmay)).mono ?_; rintro e w2 ⟨rfl, hu2⟩; replace hK := hK.no hu2; replace hU := hU.trans hu2; replace q9 := hu2.row q9 (fun h => h.elim); clear hu2 d0 d1 d2 d3 d4 d5 d6 r0 r1; obtain ⟨d0, d1, d2, d3, d4, d5, d6⟩ := ws_cells hK.wr; obtain ⟨r0, r1⟩ := ep2 q9)
              | (go_at_call 8; refine (let_any _).mono ?_; rintro e w2 ⟨rfl, hu2⟩; replace hU := hU.trans hu2))
            go_ret
            exact ⟨rfl, hU⟩
end Go.Proofs.Ytfiblchdfacdiaa
