/- The law's Do, walked. -/
import Derived.Test.YtfiblchdfacdiaaDuo
import Derived.Test.YtfiblchdfacdiaaRefM
namespace Go.Proofs.Ytfiblchdfacdiaa
open Go Go.RowKit Go.Deep Go.Maps

theorem heldD {w : World} {b7 b3 : Nat} {S : Ws} {y0 : ActP} (r8 : w.rowIs b7 28 7 (wF S)) (r7 : w.rowIs b3 50 14 (acF y0)) : w.cell? ⟨b7, 0, none⟩ = some (.int .u8 (S.p : Nat)) ∧ w.cell? ⟨b7, 1, none⟩ = some (.int .u32 (S.ia : Nat)) ∧ w.cell? ⟨b7, 2, none⟩ = some (.int .u16 (S.ib : Nat)) ∧ w.cell? ⟨b3, 0, none⟩ = some (.int .u8 (y0.k : Nat)) ∧ w.cell? ⟨b3, 1, none⟩ = some (.int .u8 (y0.pr : Nat)) ∧ w.cell? ⟨b3, 2, none⟩ = some (.int .u8 (y0.i : Nat)) ∧ w.cell? ⟨b3, 3, none⟩ = some (.int .u8 (y0.o : Nat)) ∧ w.cell? ⟨b3, 4, none⟩ = some (.int .u8 (y0.s : Nat)) ∧ w.cell? ⟨b3, 5, none⟩ = some (.int .u8 (y0.W.p : Nat)) ∧ w.cell? ⟨b3, 6, none⟩ = some (.int .u32 (y0.W.ia : Nat)) ∧ w.cell? ⟨b3, 7, none⟩ = some (.int .u16 (y0.W.ib : Nat)) ∧ w.cell? ⟨b3, 8, none⟩ = some (.int .u32 (y0.W.ip : Nat)) ∧ w.cell? ⟨b3, 9, none⟩ = some (.int .u16 (y0.W.fr : Nat)) ∧ w.cell? ⟨b3, 10, none⟩ = some (.int .u16 (y0.W.tu : Nat)) ∧ w.cell? ⟨b3, 11, none⟩ = some (.int .u16 (y0.W.dr : Nat)) ∧ w.cell? ⟨b3, 12, none⟩ = some (.int .u32 (y0.fa : Nat)) ∧ w.cell? ⟨b3, 13, none⟩ = some (.int .u16 (y0.fb : Nat)) := by
  obtain ⟨a0, a1, a2, _⟩ := ws_cells r8
  exact ⟨a0, a1, a2, ac_cells r7⟩
/-- A world in which a wish's seven cells were written. -/
def set7w (w : World) (k : Nat) (W : Ws) : World :=
  ((((((w.setCell ⟨k, 0, none⟩ (.int .u8 (W.p : Nat))).setCell ⟨k, 1, none⟩ (.int .u32 (W.ia : Nat))).setCell ⟨k, 2, none⟩ (.int .u16 (W.ib : Nat))).setCell ⟨k, 3, none⟩ (.int .u32 (W.ip : Nat))).setCell ⟨k, 4, none⟩ (.int .u16 (W.fr : Nat))).setCell ⟨k, 5, none⟩ (.int .u16 (W.tu : Nat))).setCell ⟨k, 6, none⟩ (.int .u16 (W.dr : Nat))
theorem set7w_row {w : World} {k : Nat} {f : Nat → Value} (hN : w.rowIs k 28 7 f) (W : Ws) : (set7w w k W).rowIs k 28 7 (wF W) := by
  refine (((((((hN.set 0 _).set 1 _).set 2 _).set 3 _).set 4 _).set 5 _).set 6 _).congr fun i hi => ?_
  match i, hi with
  | 0, _ => rfl | 1, _ => rfl | 2, _ => rfl | 3, _ => rfl | 4, _ => rfl | 5, _ => rfl | 6, _ => rfl
theorem set7w_upto (w : World) (k : Nat) (W : Ws) : Upto (fun i => i = k) w (set7w w k W) :=
  (((((((Upto.refl (fun i => i = k) w).setB (b := k) rfl _).setB (b := k) rfl _).setB (b := k) rfl _).setB (b := k) rfl _).setB (b := k) rfl _).setB (b := k) rfl _).setB (b := k) rfl _
/-- A raw wish, of at most 3001 ports. -/
def clip (W : Ws) : Ws := if 3000 < (W.tu : Int) - W.fr then ⟨W.p, W.ia, W.ib, W.ip, W.fr, W.fr + 3000, W.dr⟩ else W
theorem clip_ok (W : Ws) (h : W.Ok) : (clip W).Ok := by
  unfold clip
  have h1 := h.tu
  split
  · exact ⟨h.p, h.ia, h.ib, h.ip, h.fr, by show W.fr + 3000 < 65536; omega, h.dr⟩
  · exact h
/-- What Do leaves. -/
def DoPost (w : World) (x y : Nat) (K : Nat → Prop) (wr : World) (n : Nat) (e : Ending) (w' : World) : Prop :=
  e = .returned (.bool true) ∧ ∃ R' O' Oq', Duo w w' x y O' Oq' R' (srt R') K ∧ Good (n + 2) R' ∧ Upto (fun k => ¬ K k) wr w'

set_option maxRecDepth 100000 in
set_option maxHeartbeats 16000000 in
theorem Do_any {w wr : World} {x y : Nat} {O Oq K : Nat → Prop} {R : List Rw} {n : Nat} (h : Duo w wr x y O Oq R (srt R) K) (y0 : ActP) (hz : y0.Ok) (hg : Good n R) (hn : n ≤ 800) :
    Calls Try.prog 23 #[actv y0, .pointer (some ⟨x, 0, none⟩), .pointer (some ⟨y, 0, none⟩)] wr (DoPost w x y K wr n) := by
  have hR3 := new_ac wr y0
  obtain ⟨c0, c1, c2, c3, c4, c5, c6, c7, c8, c9, c10, c11, c12, c13⟩ := ac_cells hR3
  have hu3 : Upto NoS wr (wr.alloc (.cells (acells y0) 50)) := (Upto.refl NoS wr).alloc _
  have hs3 : wr.heap.size < (wr.alloc (.cells (acells y0) 50)).heap.size := by simp
  have HSo := Lib.hid (small_ok y0 hz)
  have hsm := fun W' => Small_any W' y0 hz
  have HPT : Hid (∀ W', Calls Try.prog 17 #[actv y0] W' (Told (ev (pntA y0) (pntB y0)) W')) := Lib.hid (fun W' => Point_any W' y0 hz)
  have HPB : Hid (pntA y0 < 4294967296 ∧ pntB y0 < 65536) := Lib.hid ⟨by unfold pntA; omega, by unfold pntB; omega⟩
  obtain ⟨S, hS⟩ : ∃ S, small y0 = S := ⟨_, rfl⟩
  rw [hS] at hsm HSo
  have HSM := Lib.hid hsm
  obtain ⟨pa, hpa⟩ : ∃ p, pntA y0 = p := ⟨_, rfl⟩
  obtain ⟨pb, hpb⟩ : ∃ p, pntB y0 = p := ⟨_, rfl⟩
  rw [hpa, hpb] at HPT HPB
  obtain ⟨r, hr⟩ : ∃ r : Nat, (y0.k : Int) % 9 = r := ⟨y0.k % 9, by omega⟩
  have hr9 : r < 9 := by omega
  have HZ := Lib.hid hz
  have HG := Lib.hid hg
  have HH := Lib.hid h
  clear hsm hS hpa hpb hz hg h
  go_enter Try.func23, Try.ntmps23
  go_upto_block 0 with (go_at_call 16; refine (HSM.out _).mono ?_; rintro e w9 ⟨rfl, hu9⟩; have e3 := hu9.row hR3 id; clear c0 c1 c2 c3 c4 c5 c6 c7 c8 c9 c10 c11 c12 c13; obtain ⟨c0, c1, c2, c3, c4, c5, c6, c7, c8, c9, c10, c11, c12, c13⟩ := ac_cells (e3.alloc (.cells (wcells S) 28)))
  rw [hr]
  have hR8 := new_ws w9 S
  have r3 := e3.alloc (.cells (wcells S) 28)
  have hu2 : Upto NoS wr (w9.alloc (.cells (wcells S) 28)) := (hu3.trans hu9).alloc _
  have hs8 : w9.heap.size < (w9.alloc (.cells (wcells S) 28)).heap.size := by simp
  have hh3 : wr.heap.size < w9.heap.size := Nat.lt_of_lt_of_le hs3 hu9.size
  have HD := Lib.hid (HH.out.add (K' := fun i => K i ∨ i = wr.heap.size ∨ i = w9.heap.size) hu2 (fun i hi => by
    rcases hi with e | e | e
    · exact .inl e
    · exact .inr ⟨by omega, by omega⟩
    · exact .inr ⟨by omega, by omega⟩))
  have HU2 := Lib.hid hu2
  have HR7 := Lib.hid r3
  have HR8 := Lib.hid hR8
  have hwl : w.heap.size ≤ wr.heap.size := HH.out.u.size
  clear c0 c1 c2 c3 c4 c5 c6 c7 c8 c9 c10 c11 c12 c13 hR3 hu3 hs3 hu9 e3 r3 hR8 hu2 hs8 hr HSM HH
  generalize w9.alloc (.cells (wcells S) 28) = W2 at HD HU2 HR7 HR8 ⊢
  generalize w9.heap.size = b7 at HD HR8 hh3 ⊢
  generalize hb3 : wr.heap.size = b3 at HD HR7 hh3 hwl ⊢
  have HB3 := Lib.hid hb3
  clear hb3
  go_cut [] (fun wd => ∃ Wz : Ws, Hid Wz.Ok ∧ Hid (wd.rowIs b7 28 7 (wF Wz)) ∧ Hid (Duo w wd x y O Oq R (srt R) (fun i => K i ∨ i = b3 ∨ i = b7)) ∧ Hid (Upto (fun i => ¬ K i) wr wd))
  case first =>
    rcases (show (r < 2 ∨ r = 8) ∨ r = 2 ∨ r = 3 ∨ r = 4 ∨ r = 5 ∨ r = 6 ∨ r = 7 by omega) with hc | hc | hc | hc | hc | hc | hc
    · have e2 : ((r : Int) == 2) = false := by simp; omega
      have e3 : ((r : Int) == 3) = false := by simp; omega
      have e4 : ((r : Int) == 4) = false := by simp; omega
      have e5 : ((r : Int) == 5) = false := by simp; omega
      have e6 : ((r : Int) == 6) = false := by simp; omega
      have e7 : ((r : Int) == 7) = false := by simp; omega
      go_wp2_with fail
      go_meet
      case rel => exact ⟨S, HSo, HR8, HD, Lib.hid (HU2.out.mono (fun _ _ e => e.elim))⟩
    · subst hc
      obtain ⟨E, R', he1⟩ : ∃ E R', fx R S.p S.ia S.ib pa pb = (E, R') := ⟨_, _, rfl⟩
      have he2 := fx_same HD.out.p.keyO HD.out.p.keyI S.p S.ia S.ib pa pb
      have hgt := HG.out.fx S.p S.ia S.ib pa pb
      rw [he1] at he2 hgt
      have HE1 := Lib.hid he1
      have HE2 := Lib.hid he2
      have HGT := Lib.hid hgt
      have HBD := Lib.hid (bound HD.out HG.out (by omega))
      clear he1 he2 hgt
      go_upto_region 4 with (fail)
      go_region_held3 (fun w' => w'.cell? ⟨b7, 0, none⟩ = some (.int .u8 (S.p : Nat)) ∧ w'.cell? ⟨b7, 1, none⟩ = some (.int .u32 (S.ia : Nat)) ∧ w'.cell? ⟨b7, 2, none⟩ = some (.int .u16 (S.ib : Nat)) ∧ w'.cell? ⟨b3, 0, none⟩ = some (.int .u8 (y0.k : Nat)) ∧ w'.cell? ⟨b3, 1, none⟩ = some (.int .u8 (y0.pr : Nat)) ∧ w'.cell? ⟨b3, 2, none⟩ = some (.int .u8 (y0.i : Nat)) ∧ w'.cell? ⟨b3, 3, none⟩ = some (.int .u8 (y0.o : Nat)) ∧ w'.cell? ⟨b3, 4, none⟩ = some (.int .u8 (y0.s : Nat)) ∧ w'.cell? ⟨b3, 5, none⟩ = some (.int .u8 (y0.W.p : Nat)) ∧ w'.cell? ⟨b3, 6, none⟩ = some (.int .u32 (y0.W.ia : Nat)) ∧ w'.cell? ⟨b3, 7, none⟩ = some (.int .u16 (y0.W.ib : Nat)) ∧ w'.cell? ⟨b3, 8, none⟩ = some (.int .u32 (y0.W.ip : Nat)) ∧ w'.cell? ⟨b3, 9, none⟩ = some (.int .u16 (y0.W.fr : Nat)) ∧ w'.cell? ⟨b3, 10, none⟩ = some (.int .u16 (y0.W.tu : Nat)) ∧ w'.cell? ⟨b3, 11, none⟩ = some (.int .u16 (y0.W.dr : Nat)) ∧ w'.cell? ⟨b3, 12, none⟩ = some (.int .u32 (y0.fa : Nat)) ∧ w'.cell? ⟨b3, 13, none⟩ = some (.int .u16 (y0.fb : Nat)))
        (first | exact heldD rD8 rD7 | exact heldD rC8 rC7 | exact heldD rB8 rB7 | exact heldD rA8 rA7 | exact heldD HR8.out HR7.out)
        (first
          | (go_at_call 17; refine (HPT.out _).mono ?_; rintro e w7 ⟨rfl, hu7⟩; have hDC := hDB.quiet hu7; have rC8 := hu7.row rB8 id; have rC7 := hu7.row rB7 id)
          | (go_at_call 17; refine (HPT.out _).mono ?_; rintro e w5 ⟨rfl, hu5⟩; have huA := ((Upto.refl NoS W2).drew).trans hu5; have hDA := HD.out.quiet huA; have rA8 := huA.row HR8.out id; have rA7 := huA.row HR7.out id)
          | (go_at_call 13; refine (dfix_p hDA S.p S.ia S.ib pa pb HSo.out.p HSo.out.ia HSo.out.ib HPB.out.1 HPB.out.2 HG.out (by omega) HE1.out).mono ?_; rintro e w6 ⟨rfl, O6, hDB, huB⟩; have rB8 := huB.row rA8 (fun h => h (.inr (.inr rfl))); have rB7 := huB.row rA7 (fun h => h (.inr (.inl rfl))))
          | (go_at_call 37; refine (dfix_q hDC S.p S.ia S.ib pa pb HSo.out.p HSo.out.ia HSo.out.ib HPB.out.1 HPB.out.2 HBD.out.1 HBD.out.2.1 HE2.out).mono ?_; rintro e w8 ⟨rfl, Oq8, hDD, huD⟩; have rD8 := huD.row rC8 (fun h => h (.inr (.inr rfl))); have rD7 := huD.row rC7 (fun h => h (.inr (.inl rfl)))))
      go_wp2_with fail
      go_ret
      exact ⟨rfl, R', O6, Oq8, hDD.mono (fun i e => .inl e), HGT.out.up, ((HU2.out.trans huA).mono (fun _ _ e => e.elim)).trans (((huB.trans (hu7.mono (fun _ _ e => e.elim))).trans huD).mono (fun i _ e h => e (.inl h)))⟩
    · subst hc
      obtain ⟨E, R', he1⟩ : ∃ E R', cf R S.p pa pb = (E, R') := ⟨_, _, rfl⟩
      have he2 := cf_same HD.out.p.keyO S.p pa pb
      have hgt := HG.out.cf S.p pa pb
      rw [he1] at he2 hgt
      have HE1 := Lib.hid he1
      have HE2 := Lib.hid he2
      have HGT := Lib.hid hgt
      have HBD := Lib.hid (bound HD.out HG.out (by omega))
      clear he1 he2 hgt
      go_upto_region 6 with (fail)
      go_region_held3 (fun w' => w'.cell? ⟨b7, 0, none⟩ = some (.int .u8 (S.p : Nat)) ∧ w'.cell? ⟨b7, 1, none⟩ = some (.int .u32 (S.ia : Nat)) ∧ w'.cell? ⟨b7, 2, none⟩ = some (.int .u16 (S.ib : Nat)) ∧ w'.cell? ⟨b3, 0, none⟩ = some (.int .u8 (y0.k : Nat)) ∧ w'.cell? ⟨b3, 1, none⟩ = some (.int .u8 (y0.pr : Nat)) ∧ w'.cell? ⟨b3, 2, none⟩ = some (.int .u8 (y0.i : Nat)) ∧ w'.cell? ⟨b3, 3, none⟩ = some (.int .u8 (y0.o : Nat)) ∧ w'.cell? ⟨b3, 4, none⟩ = some (.int .u8 (y0.s : Nat)) ∧ w'.cell? ⟨b3, 5, none⟩ = some (.int .u8 (y0.W.p : Nat)) ∧ w'.cell? ⟨b3, 6, none⟩ = some (.int .u32 (y0.W.ia : Nat)) ∧ w'.cell? ⟨b3, 7, none⟩ = some (.int .u16 (y0.W.ib : Nat)) ∧ w'.cell? ⟨b3, 8, none⟩ = some (.int .u32 (y0.W.ip : Nat)) ∧ w'.cell? ⟨b3, 9, none⟩ = some (.int .u16 (y0.W.fr : Nat)) ∧ w'.cell? ⟨b3, 10, none⟩ = some (.int .u16 (y0.W.tu : Nat)) ∧ w'.cell? ⟨b3, 11, none⟩ = some (.int .u16 (y0.W.dr : Nat)) ∧ w'.cell? ⟨b3, 12, none⟩ = some (.int .u32 (y0.fa : Nat)) ∧ w'.cell? ⟨b3, 13, none⟩ = some (.int .u16 (y0.fb : Nat)))
        (first | exact heldD rD8 rD7 | exact heldD rC8 rC7 | exact heldD rB8 rB7 | exact heldD rA8 rA7 | exact heldD HR8.out HR7.out)
        (first
          | (go_at_call 17; refine (HPT.out _).mono ?_; rintro e w7 ⟨rfl, hu7⟩; have hDC := hDB.quiet hu7; have rC8 := hu7.row rB8 id; have rC7 := hu7.row rB7 id)
          | (go_at_call 17; refine (HPT.out _).mono ?_; rintro e w5 ⟨rfl, hu5⟩; have huA := ((Upto.refl NoS W2).drew).trans hu5; have hDA := HD.out.quiet huA; have rA8 := huA.row HR8.out id; have rA7 := huA.row HR7.out id)
          | (go_at_call 18; refine (dconf_p hDA S.p pa pb HSo.out.p HPB.out.1 HPB.out.2 HG.out (by omega) HE1.out).mono ?_; rintro e w6 ⟨rfl, O6, hDB, huB⟩; have rB8 := huB.row rA8 (fun h => h (.inr (.inr rfl))); have rB7 := huB.row rA7 (fun h => h (.inr (.inl rfl))))
          | (go_at_call 38; refine (dconf_q hDC S.p pa pb HBD.out.2.2 HE2.out).mono ?_; rintro e w8 ⟨rfl, Oq8, hDD, huD⟩; have rD8 := huD.row rC8 (fun h => h (.inr (.inr rfl))); have rD7 := huD.row rC7 (fun h => h (.inr (.inl rfl)))))
      go_wp2_with fail
      go_ret
      exact ⟨rfl, R', O6, Oq8, hDD.mono (fun i e => .inl e), HGT.out.up, ((HU2.out.trans huA).mono (fun _ _ e => e.elim)).trans (((huB.trans (hu7.mono (fun _ _ e => e.elim))).trans huD).mono (fun i _ e h => e (.inl h)))⟩
    · subst hc
      obtain ⟨E, R', he1⟩ : ∃ E R', dr R S.p pa pb = (E, R') := ⟨_, _, rfl⟩
      have he2 := dr_same HD.out.p.keyO S.p pa pb
      have hgt := HG.out.dr HD.out.p.keyO S.p pa pb
      rw [he1] at he2 hgt
      have HE1 := Lib.hid he1
      have HE2 := Lib.hid he2
      have HGT := Lib.hid hgt
      have HBD := Lib.hid (bound HD.out HG.out (by omega))
      clear he1 he2 hgt
      go_upto_region 8 with (fail)
      go_region_held3 (fun w' => w'.cell? ⟨b7, 0, none⟩ = some (.int .u8 (S.p : Nat)) ∧ w'.cell? ⟨b7, 1, none⟩ = some (.int .u32 (S.ia : Nat)) ∧ w'.cell? ⟨b7, 2, none⟩ = some (.int .u16 (S.ib : Nat)) ∧ w'.cell? ⟨b3, 0, none⟩ = some (.int .u8 (y0.k : Nat)) ∧ w'.cell? ⟨b3, 1, none⟩ = some (.int .u8 (y0.pr : Nat)) ∧ w'.cell? ⟨b3, 2, none⟩ = some (.int .u8 (y0.i : Nat)) ∧ w'.cell? ⟨b3, 3, none⟩ = some (.int .u8 (y0.o : Nat)) ∧ w'.cell? ⟨b3, 4, none⟩ = some (.int .u8 (y0.s : Nat)) ∧ w'.cell? ⟨b3, 5, none⟩ = some (.int .u8 (y0.W.p : Nat)) ∧ w'.cell? ⟨b3, 6, none⟩ = some (.int .u32 (y0.W.ia : Nat)) ∧ w'.cell? ⟨b3, 7, none⟩ = some (.int .u16 (y0.W.ib : Nat)) ∧ w'.cell? ⟨b3, 8, none⟩ = some (.int .u32 (y0.W.ip : Nat)) ∧ w'.cell? ⟨b3, 9, none⟩ = some (.int .u16 (y0.W.fr : Nat)) ∧ w'.cell? ⟨b3, 10, none⟩ = some (.int .u16 (y0.W.tu : Nat)) ∧ w'.cell? ⟨b3, 11, none⟩ = some (.int .u16 (y0.W.dr : Nat)) ∧ w'.cell? ⟨b3, 12, none⟩ = some (.int .u32 (y0.fa : Nat)) ∧ w'.cell? ⟨b3, 13, none⟩ = some (.int .u16 (y0.fb : Nat)))
        (first | exact heldD rD8 rD7 | exact heldD rC8 rC7 | exact heldD rB8 rB7 | exact heldD rA8 rA7 | exact heldD HR8.out HR7.out)
        (first
          | (go_at_call 17; refine (HPT.out _).mono ?_; rintro e w7 ⟨rfl, hu7⟩; have hDC := hDB.quiet hu7; have rC8 := hu7.row rB8 id; have rC7 := hu7.row rB7 id)
          | (go_at_call 17; refine (HPT.out _).mono ?_; rintro e w5 ⟨rfl, hu5⟩; have huA := ((Upto.refl NoS W2).drew).trans hu5; have hDA := HD.out.quiet huA; have rA8 := huA.row HR8.out id; have rA7 := huA.row HR7.out id)
          | (go_at_call 19; refine (ddrop_p hDA S.p pa pb HSo.out.p HPB.out.1 HPB.out.2 HE1.out).mono ?_; rintro e w6 ⟨rfl, O6, hDB, huB⟩; have rB8 := huB.row rA8 (fun h => h (.inr (.inr rfl))); have rB7 := huB.row rA7 (fun h => h (.inr (.inl rfl))))
          | (go_at_call 39; refine (ddrop_q hDC S.p pa pb HBD.out.2.2 HE2.out).mono ?_; rintro e w8 ⟨rfl, Oq8, hDD, huD⟩; have rD8 := huD.row rC8 (fun h => h (.inr (.inr rfl))); have rD7 := huD.row rC7 (fun h => h (.inr (.inl rfl)))))
      go_wp2_with fail
      go_ret
      exact ⟨rfl, R', O6, Oq8, hDD.mono (fun i e => .inl e), HGT.out.up, ((HU2.out.trans huA).mono (fun _ _ e => e.elim)).trans (((huB.trans (hu7.mono (fun _ _ e => e.elim))).trans huD).mono (fun i _ e h => e (.inl h)))⟩
    · subst hc
      obtain ⟨E, R', he1⟩ : ∃ E R', rl R S.p pa pb = (E, R') := ⟨_, _, rfl⟩
      have he2 := rl_same HD.out.p.keyO S.p pa pb
      have hgt := HG.out.rl HD.out.p.keyO S.p pa pb
      rw [he1] at he2 hgt
      have HE1 := Lib.hid he1
      have HE2 := Lib.hid he2
      have HGT := Lib.hid hgt
      have HBD := Lib.hid (bound HD.out HG.out (by omega))
      clear he1 he2 hgt
      go_upto_region 10 with (fail)
      go_region_held3 (fun w' => w'.cell? ⟨b7, 0, none⟩ = some (.int .u8 (S.p : Nat)) ∧ w'.cell? ⟨b7, 1, none⟩ = some (.int .u32 (S.ia : Nat)) ∧ w'.cell? ⟨b7, 2, none⟩ = some (.int .u16 (S.ib : Nat)) ∧ w'.cell? ⟨b3, 0, none⟩ = some (.int .u8 (y0.k : Nat)) ∧ w'.cell? ⟨b3, 1, none⟩ = some (.int .u8 (y0.pr : Nat)) ∧ w'.cell? ⟨b3, 2, none⟩ = some (.int .u8 (y0.i : Nat)) ∧ w'.cell? ⟨b3, 3, none⟩ = some (.int .u8 (y0.o : Nat)) ∧ w'.cell? ⟨b3, 4, none⟩ = some (.int .u8 (y0.s : Nat)) ∧ w'.cell? ⟨b3, 5, none⟩ = some (.int .u8 (y0.W.p : Nat)) ∧ w'.cell? ⟨b3, 6, none⟩ = some (.int .u32 (y0.W.ia : Nat)) ∧ w'.cell? ⟨b3, 7, none⟩ = some (.int .u16 (y0.W.ib : Nat)) ∧ w'.cell? ⟨b3, 8, none⟩ = some (.int .u32 (y0.W.ip : Nat)) ∧ w'.cell? ⟨b3, 9, none⟩ = some (.int .u16 (y0.W.fr : Nat)) ∧ w'.cell? ⟨b3, 10, none⟩ = some (.int .u16 (y0.W.tu : Nat)) ∧ w'.cell? ⟨b3, 11, none⟩ = some (.int .u16 (y0.W.dr : Nat)) ∧ w'.cell? ⟨b3, 12, none⟩ = some (.int .u32 (y0.fa : Nat)) ∧ w'.cell? ⟨b3, 13, none⟩ = some (.int .u16 (y0.fb : Nat)))
        (first | exact heldD rD8 rD7 | exact heldD rC8 rC7 | exact heldD rB8 rB7 | exact heldD rA8 rA7 | exact heldD HR8.out HR7.out)
        (first
          | (go_at_call 17; refine (HPT.out _).mono ?_; rintro e w7 ⟨rfl, hu7⟩; have hDC := hDB.quiet hu7; have rC8 := hu7.row rB8 id; have rC7 := hu7.row rB7 id)
          | (go_at_call 17; refine (HPT.out _).mono ?_; rintro e w5 ⟨rfl, hu5⟩; have huA := ((Upto.refl NoS W2).drew).trans hu5; have hDA := HD.out.quiet huA; have rA8 := huA.row HR8.out id; have rA7 := huA.row HR7.out id)
          | (go_at_call 20; refine (drel_p hDA S.p pa pb HSo.out.p HPB.out.1 HPB.out.2 HE1.out).mono ?_; rintro e w6 ⟨rfl, O6, hDB, huB⟩; have rB8 := huB.row rA8 (fun h => h (.inr (.inr rfl))); have rB7 := huB.row rA7 (fun h => h (.inr (.inl rfl))))
          | (go_at_call 40; refine (drel_q hDC S.p pa pb HBD.out.2.2 HE2.out).mono ?_; rintro e w8 ⟨rfl, Oq8, hDD, huD⟩; have rD8 := huD.row rC8 (fun h => h (.inr (.inr rfl))); have rD7 := huD.row rC7 (fun h => h (.inr (.inl rfl)))))
      go_wp2_with fail
      go_ret
      exact ⟨rfl, R', O6, Oq8, hDD.mono (fun i e => .inl e), HGT.out.up, ((HU2.out.trans huA).mono (fun _ _ e => e.elim)).trans (((huB.trans (hu7.mono (fun _ _ e => e.elim))).trans huD).mono (fun i _ e h => e (.inl h)))⟩
    · subst hc
      obtain ⟨c0, c1, c2, c3, c4, c5, c6, c7, c8, c9, c10, c11, c12, c13⟩ := ac_cells HR7.out
      obtain ⟨d0, d1, d2, d3, d4, d5, d6⟩ := ws_cells HR8.out
      have f0 := HR8.out.frozen 0
      have f1 := HR8.out.frozen 1
      have f2 := HR8.out.frozen 2
      have f3 := HR8.out.frozen 3
      have f4 := HR8.out.frozen 4
      have f5 := HR8.out.frozen 5
      have f6 := HR8.out.frozen 6
      have o5 := HZ.out.W.fr
      have o6 := HZ.out.W.tu
      have hrow := set7w_row HR8.out y0.W
      have hup := set7w_upto W2 b7 y0.W
      by_cases hbig : 3000 < (y0.W.tu : Int) - y0.W.fr
      · have b1 : decide ((3000 : Int) < (y0.W.tu : Int) - y0.W.fr) = true := decide_eq_true hbig
        have hw3 : IntKind.u16.wrap ((y0.W.fr : Int) + 3000) = (y0.W.fr : Int) + 3000 := IntWalk.u16_in _ (by omega)
        have hrow2 : ((set7w W2 b7 y0.W).setCell ⟨b7, 5, none⟩ (.int .u16 ((y0.W.fr : Int) + 3000))).rowIs b7 28 7 (wF (clip y0.W)) := by
          refine (hrow.set 5 _).congr fun i hi => ?_
          unfold clip
          rw [if_pos hbig]
          match i, hi with
          | 0, _ => rfl | 1, _ => rfl | 2, _ => rfl | 3, _ => rfl | 4, _ => rfl | 5, _ => simp [wF] | 6, _ => rfl
        have hup2 := hup.setB (b := b7) (o := 5) rfl (.int .u16 ((y0.W.fr : Int) + 3000))
        have HN : Hid (_ ∧ _ ∧ _) := Lib.hid (And.intro hrow2 (And.intro (HD.out.other hup2 (fun k e => .inr (.inr e)) (fun k e => by have e : k = b7 := e; omega)) ((HU2.out.mono (T := fun i => ¬ K i) (fun _ _ e => e.elim)).trans' hup2 (fun k hk e => by exfalso; have e : k = b7 := e; have := HB3.out; omega))))
        clear hrow hup hrow2 hup2
        go_wp2_with fail
        go_meet
        case rel => exact ⟨clip y0.W, Lib.hid (clip_ok _ HZ.out.W), Lib.hid HN.out.1, Lib.hid HN.out.2.1, Lib.hid HN.out.2.2⟩
      · have b1 : decide ((3000 : Int) < (y0.W.tu : Int) - y0.W.fr) = false := decide_eq_false hbig
        have HN : Hid (_ ∧ _ ∧ _) := Lib.hid (And.intro hrow (And.intro (HD.out.other hup (fun k e => .inr (.inr e)) (fun k e => by have e : k = b7 := e; omega)) ((HU2.out.mono (T := fun i => ¬ K i) (fun _ _ e => e.elim)).trans' hup (fun k hk e => by exfalso; have e : k = b7 := e; have := HB3.out; omega))))
        clear hrow hup
        go_wp2_with fail
        go_meet
        case rel => exact ⟨y0.W, Lib.hid HZ.out.W, Lib.hid HN.out.1, Lib.hid HN.out.2.1, Lib.hid HN.out.2.2⟩
    · subst hc
      obtain ⟨E, R', he1⟩ : ∃ E R', fx R y0.W.p y0.W.ia y0.W.ib y0.fa y0.fb = (E, R') := ⟨_, _, rfl⟩
      have he2 := fx_same HD.out.p.keyO HD.out.p.keyI y0.W.p y0.W.ia y0.W.ib y0.fa y0.fb
      have hgt := HG.out.fx y0.W.p y0.W.ia y0.W.ib y0.fa y0.fb
      rw [he1] at he2 hgt
      obtain ⟨E2, R2, he3⟩ : ∃ E R2, cf R' y0.W.p y0.fa y0.fb = (E, R2) := ⟨_, _, rfl⟩
      have HE1 := Lib.hid he1
      have HE2 := Lib.hid he2
      have HE3 := Lib.hid he3
      have HGT := Lib.hid hgt
      have HBD := Lib.hid (bound HD.out HG.out (by omega))
      have HZW := Lib.hid HZ.out.W
      clear he1 he2 he3 hgt
      go_upto_region 16 with (fail)
      go_region_held3 (fun w' => w'.cell? ⟨b3, 0, none⟩ = some (.int .u8 (y0.k : Nat)) ∧ w'.cell? ⟨b3, 1, none⟩ = some (.int .u8 (y0.pr : Nat)) ∧ w'.cell? ⟨b3, 2, none⟩ = some (.int .u8 (y0.i : Nat)) ∧ w'.cell? ⟨b3, 3, none⟩ = some (.int .u8 (y0.o : Nat)) ∧ w'.cell? ⟨b3, 4, none⟩ = some (.int .u8 (y0.s : Nat)) ∧ w'.cell? ⟨b3, 5, none⟩ = some (.int .u8 (y0.W.p : Nat)) ∧ w'.cell? ⟨b3, 6, none⟩ = some (.int .u32 (y0.W.ia : Nat)) ∧ w'.cell? ⟨b3, 7, none⟩ = some (.int .u16 (y0.W.ib : Nat)) ∧ w'.cell? ⟨b3, 8, none⟩ = some (.int .u32 (y0.W.ip : Nat)) ∧ w'.cell? ⟨b3, 9, none⟩ = some (.int .u16 (y0.W.fr : Nat)) ∧ w'.cell? ⟨b3, 10, none⟩ = some (.int .u16 (y0.W.tu : Nat)) ∧ w'.cell? ⟨b3, 11, none⟩ = some (.int .u16 (y0.W.dr : Nat)) ∧ w'.cell? ⟨b3, 12, none⟩ = some (.int .u32 (y0.fa : Nat)) ∧ w'.cell? ⟨b3, 13, none⟩ = some (.int .u16 (y0.fb : Nat)))
        (first | exact ac_cells rD7 | exact ac_cells rC7 | exact ac_cells rB7 | exact ac_cells rA7 | exact ac_cells HR7.out)
        (first
          | (go_at_call 13; refine (dfix_p (HD.out.quiet ((Upto.refl NoS W2).drew)) y0.W.p y0.W.ia y0.W.ib y0.fa y0.fb HZW.out.p HZW.out.ia HZW.out.ib HZ.out.fa HZ.out.fb HG.out (by omega) HE1.out).mono ?_; rintro e w5 ⟨rfl, O5, hDA, huA⟩; have rA7 := huA.row (HR7.out.drew) (fun h => h (.inr (.inl rfl))))
          | (go_at_call 37; refine (dfix_q hDA y0.W.p y0.W.ia y0.W.ib y0.fa y0.fb HZW.out.p HZW.out.ia HZW.out.ib HZ.out.fa HZ.out.fb HBD.out.1 HBD.out.2.1 HE2.out).mono ?_; rintro e w6 ⟨rfl, Oq6, hDB, huB⟩; have rB7 := huB.row rA7 (fun h => h (.inr (.inl rfl))); have hcs := cf_same hDB.p.keyO y0.W.p y0.fa y0.fb; rw [HE3.out] at hcs; have HB2 := Lib.hid (bound hDB HGT.out (by omega)); have HCS := Lib.hid hcs; clear hcs)
          | (go_at_call 18; refine (dconf_p hDB y0.W.p y0.fa y0.fb HZW.out.p HZ.out.fa HZ.out.fb HGT.out (by omega) HE3.out).mono ?_; rintro e w7 ⟨rfl, O7, hDC, huC⟩; have rC7 := huC.row rB7 (fun h => h (.inr (.inl rfl))))
          | (go_at_call 38; refine (dconf_q hDC y0.W.p y0.fa y0.fb HB2.out.2.2 HCS.out).mono ?_; rintro e w8 ⟨rfl, Oq8, hDD, huD⟩; have rD7 := huD.row rC7 (fun h => h (.inr (.inl rfl)))))
      go_wp2_with fail
      go_ret
      have hgc := HGT.out.cf y0.W.p y0.fa y0.fb
      rw [HE3.out] at hgc
      exact ⟨rfl, R2, O7, Oq8, hDD.mono (fun i e => .inl e), hgc, ((HU2.out.trans ((Upto.refl NoS W2).drew)).mono (fun _ _ e => e.elim)).trans ((((huA.trans huB).trans huC).trans huD).mono (fun i _ e h => e (.inl h)))⟩
  case rest =>
    clear HR7 HR8 HD HU2 HSo HPT HPB HZ hh3
    obtain ⟨Wz, HWZ, HR8, HD, HU2⟩ := hcut
    obtain ⟨A, B, E, R', he1⟩ : ∃ A B E R', tk R Wz = (A, B, E, R') := ⟨_, _, _, _, rfl⟩
    have he2 := tk_same HD.out.p.keyO HD.out.p.keyI Wz
    have hgt := HG.out.tk Wz
    rw [he1] at he2 hgt
    obtain ⟨d0, d1, d2, d3, d4, d5, d6⟩ := ws_cells HR8.out
    have HE1 := Lib.hid he1
    have HE2 := Lib.hid he2
    have HGT := Lib.hid hgt
    have q1 := fun w' => eq26 w' A B A B
    have q3 := fun w' x y => guard26e w' x y A B A B
    simp only [beq_self_eq_true, Bool.and_self] at q1
    clear he1 he2 hgt
    go_wp2_with (first
      | (go_at_call 14; refine (dtake_p HD.out Wz HWZ.out HG.out (by omega) HE1.out).mono ?_; rintro e w5 ⟨rfl, O5, hD5, hu5⟩; have n0 := new_1 w5 #[.int .u32 (A : Nat), .int .u16 (B : Nat)] 26 0 (.int .u32 (A : Nat)) rfl; have n1 := new_1 w5 #[.int .u32 (A : Nat), .int .u16 (B : Nat)] 26 1 (.int .u16 (B : Nat)) rfl; have r5 := (hu5.row HR8.out (fun h => h (.inr (.inr rfl)))).alloc (.cells #[.int .u32 (A : Nat), .int .u16 (B : Nat)] 26); have HU5 := Lib.hid (hu5.alloc (.cells #[.int .u32 (A : Nat), .int .u16 (B : Nat)] 26)); have HD5 := Lib.hid (hD5.add (K' := fun i => (K i ∨ i = b3 ∨ i = b7) ∨ i = w5.heap.size) ((Upto.refl NoS w5).alloc (.cells #[.int .u32 (A : Nat), .int .u16 (B : Nat)] 26)) (fun i hi => hi.elim .inl (fun e => .inr ⟨by omega, by rw [e]; simp⟩))); clear hD5 hu5 d0 d1 d2 d3 d4 d5 d6; obtain ⟨d0, d1, d2, d3, d4, d5, d6⟩ := ws_cells r5)
      | (go_at_call 11; refine (Doc_any _ Wz).mono ?_; rintro e w6 ⟨rfl, hu6⟩; have HD6 := Lib.hid (HD5.out.quiet hu6); have HU6 := Lib.hid (HU5.out.trans (hu6.mono (fun _ _ e => e.elim))); replace n0 := hu6.keep n0 id; replace n1 := hu6.keep n1 id; clear HD5 HU5)
      | (go_at_call 41; refine (dtake_q HD6.out Wz HWZ.out (bound HD.out HG.out (by omega)).1 (bound HD.out HG.out (by omega)).2.1 HE2.out).mono ?_; rintro e w7 ⟨rfl, Oq7, hD7, hu7⟩; have m0 := new_1 w7 #[.int .u32 (A : Nat), .int .u16 (B : Nat)] 26 0 (.int .u32 (A : Nat)) rfl; have m1 := new_1 w7 #[.int .u32 (A : Nat), .int .u16 (B : Nat)] 26 1 (.int .u16 (B : Nat)) rfl; replace n0 := keep_alloc (hu7.keep n0 (fun h => h (.inr rfl))) (.cells #[.int .u32 (A : Nat), .int .u16 (B : Nat)] 26); replace n1 := keep_alloc (hu7.keep n1 (fun h => h (.inr rfl))) (.cells #[.int .u32 (A : Nat), .int .u16 (B : Nat)] 26); have HD7 := Lib.hid (hD7.quiet ((Upto.refl NoS w7).alloc (.cells #[.int .u32 (A : Nat), .int .u16 (B : Nat)] 26))); have HU7 := Lib.hid ((HU6.out.trans' hu7 (fun i _ e h => e (.inl h))).alloc (.cells #[.int .u32 (A : Nat), .int .u16 (B : Nat)] 26)); clear hD7 hu7))
    go_ret
    exact ⟨rfl, R', O5, Oq7, HD7.out.mono (fun i e => .inl (.inl e)), HGT.out.up, HU2.out.trans (HU7.out.mono (fun i _ e h => e (.inl h)))⟩
end Go.Proofs.Ytfiblchdfacdiaa
