/- The law's Same, walked. -/
import Derived.Test.YtfiblchdfacdiaaDuo
import Derived.Test.YtfiblchdfacdiaaCopyW
import Derived.Test.YtfiblchdfacdiaaEqr
import Derived.Test.YtfiblchdfacdiaaOwnW
namespace Go.Proofs.Ytfiblchdfacdiaa
open Go Go.RowKit Go.Deep Go.Maps

set_option maxHeartbeats 1000000 in
theorem in83 (w : World) (d : Nat) (r : Rw) : (Op.equalIn (d + 3) 83 (rwV r) (rwV r)).run Try.prog w = .ok true w := by
  have u3 := Try.underlying3
  have u5 := Try.underlying5
  have a3 := Try.isAgg3
  have z3 := Try.sizeOf3
  have a5 := Try.isAgg5
  have z5 := Try.sizeOf5
  have a26 := Try.isAgg26
  have z26 := Try.sizeOf26
  have hS : Try.prog.underlying 83 = some (.struct (Try.prog.fieldsOf 83)) := by kernel_rfl
  have hp : Try.prog.stoodInHeld 83 = false := by kernel_rfl
  have h1 := in26 w d r.oa r.ob r.oa r.ob
  have h2 := in26 w d r.ia r.ib r.ia r.ib
  simp only [beq_self_eq_true, Bool.and_self] at h1 h2
  rw [show d + 3 = (d + 2) + 1 from rfl, run_equalIn_agg w (d + 2) 83 _ _ hS hp]
  simp only [Program.fieldsOf, Try.underlying83]
  go_simp
theorem neq83 (w : World) (r : Rw) : (binOp .neq 83 (rwV r) (rwV r)).run Try.prog w = .ok (.bool false) w := by
  rw [run_neq_struct, show (10000 : Nat) = 9997 + 3 from rfl, in83]
  rfl
theorem guard83 (w : World) (x y : Operand) (r : Rw) : (eqGuard .neq 83 x y (rwV r) (rwV r)).run Try.prog w = .ok () w := run_eqGuard_agg w .neq 83 x y _ _ (by kernel_rfl)
theorem KeyI.gI_of {R : List Rw} (hk : KeyI R) {r : Rw} (h : r ∈ R) : gI R r.p r.ia r.ib = some r := by
  cases hf : gI R r.p r.ia r.ib with
  | none => exact absurd ⟨rfl, rfl, rfl⟩ (gI_none hf r h)
  | some s =>
    obtain ⟨h1, e1, e2, e3⟩ := gI_mem hf
    exact congrArg some (hk.one h1 h ⟨e1, e2, e3⟩)
/-- Whether there is a row. -/
theorem P_of {w wr : World} {x : Nat} {O K : Nat → Prop} {R : List Rw} (h : PsD w wr x O R K) (p a b : Nat) (hp : p < 256) (ha : a < 4294967296) (hb : b < 65536) {r : Rw} {q : Bool} (h1 : (gI R p a b).getD rw0 = r) (h2 : (gI R p a b).isSome = q) :
    Calls Try.prog 25 #[.pointer (some ⟨x, 0, none⟩), .int .u8 p, ev a b] wr (Told (.tuple #[rwV r, .bool q]) wr) := by
  obtain ⟨rb, ob, T, h3, rfl, _⟩ := h.at_
  have hg := fI_map T p a b
  subst h1; subst h2
  cases hI : fI T p a b with
  | some s =>
    rw [hI] at hg
    rw [← hg]
    exact Of_some wr x rb ob T p a b s h3 hp ha hb hI
  | none =>
    rw [hI] at hg
    rw [← hg]
    exact Of_no wr x rb ob T p a b h3 hp ha hb hI
theorem P_owner {w wr : World} {x : Nat} {O K : Nat → Prop} {R : List Rw} (h : PsD w wr x O R K) (p a b : Nat) (hp : p < 256) (ha : a < 4294967296) (hb : b < 65536) {r : Rw} {q : Bool} (h1 : (gO R p a b).getD rw0 = r) (h2 : (gO R p a b).isSome = q) :
    Calls Try.prog 15 #[.pointer (some ⟨x, 0, none⟩), .int .u8 p, ev a b] wr (Told (.tuple #[rwV r, .bool q]) wr) := by
  obtain ⟨rb, ob, T, h3, rfl, _⟩ := h.at_
  have hg := fO_map T p a b
  subst h1; subst h2
  cases hI : fO T p a b with
  | some s =>
    rw [hI] at hg
    rw [← hg]
    exact Owner_some wr x rb ob T p a b s h3 hp ha hb hI
  | none =>
    rw [hI] at hg
    rw [← hg]
    exact Owner_no wr x rb ob T p a b h3 hp ha hb hI
/-- A row's seven cells, written into a block that was laid. -/
theorem set7_in {w w3 : World} {b : Nat} (hb : b = w.heap.size) (hu : Upto NoS (w.alloc (.cells zrw 42)).drew w3) (r : Rw) : (set7 w3 b r).rowIs b 42 7 (rwF r) ∧ Upto NoS w (set7 w3 b r) := by
  subst hb
  have hN : w3.rowIs w.heap.size 42 7 (rwF rw0) := hu.row (show (w.alloc (.cells zrw 42)).drew.rowIs w.heap.size 42 7 (rwF rw0) from new_rw w) id
  exact ⟨set7_row hN r, set7_upto ((((Upto.refl NoS w).alloc _).drew).trans hu) (fun h => by omega) r⟩
theorem zr_cells {w w3 : World} (hu : Upto NoS (w.alloc (.cells zrw 42)).drew w3) : (w3.cell? ⟨w.heap.size, 0, none⟩ = some (.int .u8 0) ∧ w3.cell? ⟨w.heap.size, 1, none⟩ = some (.int .u32 0) ∧ w3.cell? ⟨w.heap.size, 2, none⟩ = some (.int .u16 0) ∧ w3.cell? ⟨w.heap.size, 3, none⟩ = some (.int .u32 0) ∧
    w3.cell? ⟨w.heap.size, 4, none⟩ = some (.int .u16 0) ∧ w3.cell? ⟨w.heap.size, 5, none⟩ = some (.int .i64 0) ∧ w3.cell? ⟨w.heap.size, 6, none⟩ = some (.int .i64 0)) ∧ ∀ i, w3.frozen? ⟨w.heap.size, i, none⟩ = false := by
  have hN : w3.rowIs w.heap.size 42 7 (rwF rw0) := hu.row (show (w.alloc (.cells zrw 42)).drew.rowIs w.heap.size 42 7 (rwF rw0) from new_rw w) id
  exact ⟨rw_cells hN, fun i => hN.frozen i⟩

set_option maxRecDepth 100000 in
set_option maxHeartbeats 16000000 in
theorem Same_any {w wr : World} {x y : Nat} {O Oq K : Nat → Prop} {R : List Rw} {m : Nat} (h : Duo w wr x y O Oq R (srt R) K) (hg : Good m R) (hm : m ≤ 900) :
    Calls Try.prog 24 #[.pointer (some ⟨x, 0, none⟩), .pointer (some ⟨y, 0, none⟩)] wr (Told (.bool true) wr) := by
  obtain ⟨n, hn⟩ : ∃ n, R.length = n := ⟨_, rfl⟩
  obtain ⟨L, hL⟩ : ∃ L, srt R = L := ⟨_, rfl⟩
  have hn9 : n ≤ 900 := by have := hg.len; omega
  have HN := Lib.hid hn
  have HL := Lib.hid hL
  have HLN : Hid (L.length = n) := Lib.hid (by rw [← hL, srt_len, hn])
  rw [hL] at h
  have HD := Lib.hid h
  clear hn hL hg h
  go_enter Try.func24, Try.ntmps24
  go_upto_region 2 with (go_at_call 21; refine (P_list_to HD.out.p (by omega) HN.out HL.out).mono ?_; rintro e w4 ⟨la, lc, rfl, ho4, hu4⟩)
  have hD4 := HD.out.quiet hu4
  obtain ⟨a, c, hq4, _⟩ := hD4.q
  have hc := hq4.c0
  rw [HLN.out] at hc
  have hcnt : ∀ nn, Calls Try.prog 28 #[.pointer (some ⟨x, 0, none⟩)] (w4.drewN nn) fun e w' => e = .returned (.int .i64 (n : Nat)) ∧ w4.drewN nn = w' := fun nn => by
    have := P_count (hD4.quiet ((Upto.refl NoS w4).drewN nn)).p
    rwa [HN.out] at this
  have HCN := Lib.hid hcnt
  have HD4 := Lib.hid hD4
  have HU4 := Lib.hid hu4
  have HO4 := Lib.hid ho4
  clear hcnt hD4 hu4 ho4 hq4
  go_quiet (exact quiet_same (HCN.out _))
  have hU0 : Upto NoS w4 (w4.drewN nq) := (Upto.refl NoS w4).drewN nq
  have HU0 := Lib.hid hU0
  clear hc hU0
  go_wp2_with fail
  go_loopw [6] (fun v wy => ∃ i : Nat, i ≤ n ∧ v = .int .i64 i ∧ Hid (Upto NoS w4 wy)) (fun v _ => n - (intOf v).toNat)
  case atStart => exact ⟨0, by omega, rfl, HU0⟩
  case round =>
    obtain ⟨i, hi, rfl, HU⟩ := hrel
    by_cases hlt : i < n
    · have ho := HU.out.own HO4.out (fun _ _ h => h)
      obtain ⟨q, cp, e8, _, hql⟩ := own_form ho (by omega)
      simp only [Value.slice.injEq, true_and] at e8
      obtain ⟨rfl, rfl⟩ := e8
      have hiL : i < L.length := by rw [HLN.out]; exact hlt
      obtain ⟨k0, k1, k2, k3, k4, k5, k6⟩ := own_rwc ho hiL
      have hD := HD4.out.quiet HU.out
      obtain ⟨a2, c2, hq2, _⟩ := hD.q
      obtain ⟨q2, rfl, l0, l1, l2, l3, l4, l5, l6⟩ := hq2.at_ hiL
      have hc := hq2.c0
      rw [HLN.out] at hc
      have hin : rwAt L i ∈ R := by rw [← HL.out]; exact mem_srt.1 (rwAt_mem _ (by rw [HL.out]; exact hiL))
      have HOK := Lib.hid (hD.p.okR _ hin)
      have hgi := hD.p.keyI.gI_of hin
      have hgo := hD.p.keyO.gO_of hin
      obtain ⟨r, hr⟩ : ∃ r, rwAt L i = r := ⟨_, rfl⟩
      rw [hr] at k0 k1 k2 k3 k4 k5 k6 l0 l1 l2 l3 l4 l5 l6 HOK hgi hgo
      have HGI : Hid ((gI R r.p r.ia r.ib).getD rw0 = r ∧ (gI R r.p r.ia r.ib).isSome = true) := Lib.hid (by rw [hgi]; exact ⟨rfl, rfl⟩)
      have HGO : Hid ((gO R r.p r.oa r.ob).getD rw0 = r ∧ (gO R r.p r.oa r.ob).isSome = true) := Lib.hid (by rw [hgo]; exact ⟨rfl, rfl⟩)
      have HRK := Lib.hid hr
      have x0 : (0 : Int) ≤ (i : Int) := by omega
      have x1 : (i : Int) < (n : Int) := by omega
      have q83 := fun w' => neq83 w' r
      have g83 := fun w' x y => guard83 w' x y r
      clear hgi hgo hin hr hD hq2 ho
      go_upto_region 7 with (fail)
      go_quiet (fail)
      have HUa := Lib.hid (HU.out.drewN nq)
      go_upto_region 9 with (fail)
      clear k0 k1 k2 k3 k4 k5 k6 l0 l1 l2 l3 l4 l5 l6 hc q83 g83 HU
      generalize wr.drewN nq = wr at HUa ⊢
      have hqf : q < wr.heap.size := Nat.lt_of_lt_of_le (HO4.out.lt q rfl).2 HUa.out.size
      have ho := HUa.out.own HO4.out (fun _ _ h => h)
      obtain ⟨k0, k1, k2, k3, k4, k5, k6⟩ := own_rwc ho hiL
      rw [HRK.out] at k0 k1 k2 k3 k4 k5 k6
      have HP := Lib.hid (HD4.out.quiet HUa.out).p
      clear ho
      have dd : wr.drew.cell? ⟨q, i * 7, none⟩ = some (.int .u8 (r.p : Nat)) ∧ wr.drew.cell? ⟨q, i * 7 + 3, none⟩ = some (.int .u32 (r.ia : Nat)) ∧ wr.drew.cell? ⟨q, i * 7 + 4, none⟩ = some (.int .u16 (r.ib : Nat)) := ⟨k0, k3, k4⟩
      have da : (wr.alloc (.cells zrw 42)).drew.cell? ⟨q, i * 7, none⟩ = some (.int .u8 (r.p : Nat)) ∧ (wr.alloc (.cells zrw 42)).drew.cell? ⟨q, i * 7 + 3, none⟩ = some (.int .u32 (r.ia : Nat)) ∧ (wr.alloc (.cells zrw 42)).drew.cell? ⟨q, i * 7 + 4, none⟩ = some (.int .u16 (r.ib : Nat)) := ⟨keep_alloc k0 _, keep_alloc k3 _, keep_alloc k4 _⟩
      go_cut [7, 8] (fun u v wd => ∃ b : Nat, u = .pointer (some ⟨b, 0, none⟩) ∧ v = .bool true ∧ Hid (wd.rowIs b 42 7 (rwF r)) ∧ Hid (Upto NoS wr wd))
      case first =>
        go_region_held3 (fun w' => w'.cell? ⟨q, i * 7, none⟩ = some (.int .u8 (r.p : Nat)) ∧ w'.cell? ⟨q, i * 7 + 3, none⟩ = some (.int .u32 (r.ia : Nat)) ∧ w'.cell? ⟨q, i * 7 + 4, none⟩ = some (.int .u16 (r.ib : Nat)))
          (with_reducible first | exact dt | exact ds | exact ⟨keep_alloc ds.1 _, keep_alloc ds.2.1 _, keep_alloc ds.2.2 _⟩ | exact da | exact dd)
          (first
            | (go_at_call 25; (with_reducible refine (P_of (wr := wr.drew) (HP.out.quiet ((Upto.refl NoS wr).drew)) r.p r.ia r.ib HOK.out.p HOK.out.ia HOK.out.ib HGI.out.1 HGI.out.2).mono ?_); rintro e w3 ⟨rfl, hu3⟩; have ds : w3.cell? ⟨q, i * 7, none⟩ = some (.int .u8 (r.p : Nat)) ∧ w3.cell? ⟨q, i * 7 + 3, none⟩ = some (.int .u32 (r.ia : Nat)) ∧ w3.cell? ⟨q, i * 7 + 4, none⟩ = some (.int .u16 (r.ib : Nat)) := ⟨hu3.keep dd.1 id, hu3.keep dd.2.1 id, hu3.keep dd.2.2 id⟩)
            | (go_at_call 25; (with_reducible refine (P_of (wr := (wr.alloc (.cells zrw 42)).drew) (HP.out.quiet (((Upto.refl NoS wr).alloc (.cells zrw 42)).drew)) r.p r.ia r.ib HOK.out.p HOK.out.ia HOK.out.ib HGI.out.1 HGI.out.2).mono ?_); rintro e w3 ⟨rfl, hu3⟩; have ds : w3.cell? ⟨q, i * 7, none⟩ = some (.int .u8 (r.p : Nat)) ∧ w3.cell? ⟨q, i * 7 + 3, none⟩ = some (.int .u32 (r.ia : Nat)) ∧ w3.cell? ⟨q, i * 7 + 4, none⟩ = some (.int .u16 (r.ib : Nat)) := ⟨hu3.keep da.1 id, hu3.keep da.2.1 id, hu3.keep da.2.2 id⟩; obtain ⟨⟨e0, e1, e2, e3, e4, e5, e6⟩, ff⟩ := zr_cells hu3; have f0 := ff 0; have f1 := ff 1; have f2 := ff 2; have f3 := ff 3; have f4 := ff 4; have f5 := ff 5; have f6 := ff 6; obtain ⟨hR7, hU7⟩ := set7_in rfl hu3 r; have hu7 : Upto (fun i => i = wr.heap.size) w3 (((((((w3.setCell ⟨wr.heap.size, 0, none⟩ (.int .u8 (r.p : Nat))).setCell ⟨wr.heap.size, 1, none⟩ (.int .u32 (r.oa : Nat))).setCell ⟨wr.heap.size, 2, none⟩ (.int .u16 (r.ob : Nat))).setCell ⟨wr.heap.size, 3, none⟩ (.int .u32 (r.ia : Nat))).setCell ⟨wr.heap.size, 4, none⟩ (.int .u16 (r.ib : Nat))).setCell ⟨wr.heap.size, 5, none⟩ (.int .i64 (r.live : Nat))).setCell ⟨wr.heap.size, 6, none⟩ (.int .i64 (r.held : Nat))) := (((((((Upto.refl (fun i => i = wr.heap.size) w3).setB rfl _).setB rfl _).setB rfl _).setB rfl _).setB rfl _).setB rfl _).setB rfl _; have dt : (((((((w3.setCell ⟨wr.heap.size, 0, none⟩ (.int .u8 (r.p : Nat))).setCell ⟨wr.heap.size, 1, none⟩ (.int .u32 (r.oa : Nat))).setCell ⟨wr.heap.size, 2, none⟩ (.int .u16 (r.ob : Nat))).setCell ⟨wr.heap.size, 3, none⟩ (.int .u32 (r.ia : Nat))).setCell ⟨wr.heap.size, 4, none⟩ (.int .u16 (r.ib : Nat))).setCell ⟨wr.heap.size, 5, none⟩ (.int .i64 (r.live : Nat))).setCell ⟨wr.heap.size, 6, none⟩ (.int .i64 (r.held : Nat))).cell? ⟨q, i * 7, none⟩ = some (.int .u8 (r.p : Nat)) ∧ (((((((w3.setCell ⟨wr.heap.size, 0, none⟩ (.int .u8 (r.p : Nat))).setCell ⟨wr.heap.size, 1, none⟩ (.int .u32 (r.oa : Nat))).setCell ⟨wr.heap.size, 2, none⟩ (.int .u16 (r.ob : Nat))).setCell ⟨wr.heap.size, 3, none⟩ (.int .u32 (r.ia : Nat))).setCell ⟨wr.heap.size, 4, none⟩ (.int .u16 (r.ib : Nat))).setCell ⟨wr.heap.size, 5, none⟩ (.int .i64 (r.live : Nat))).setCell ⟨wr.heap.size, 6, none⟩ (.int .i64 (r.held : Nat))).cell? ⟨q, i * 7 + 3, none⟩ = some (.int .u32 (r.ia : Nat)) ∧ (((((((w3.setCell ⟨wr.heap.size, 0, none⟩ (.int .u8 (r.p : Nat))).setCell ⟨wr.heap.size, 1, none⟩ (.int .u32 (r.oa : Nat))).setCell ⟨wr.heap.size, 2, none⟩ (.int .u16 (r.ob : Nat))).setCell ⟨wr.heap.size, 3, none⟩ (.int .u32 (r.ia : Nat))).setCell ⟨wr.heap.size, 4, none⟩ (.int .u16 (r.ib : Nat))).setCell ⟨wr.heap.size, 5, none⟩ (.int .i64 (r.live : Nat))).setCell ⟨wr.heap.size, 6, none⟩ (.int .i64 (r.held : Nat))).cell? ⟨q, i * 7 + 4, none⟩ = some (.int .u16 (r.ib : Nat)) := ⟨hu7.keep ds.1 (fun e => by have e : q = wr.heap.size := e; omega), hu7.keep ds.2.1 (fun e => by have e : q = wr.heap.size := e; omega), hu7.keep ds.2.2 (fun e => by have e : q = wr.heap.size := e; omega)⟩))
        · go_wp2_with fail
          go_meet
          case rel => exact ⟨w3.heap.size, rfl, rfl, Lib.hid (new_r7 w3 r), Lib.hid ((((Upto.refl NoS wr).drew).trans hu3).alloc _)⟩
        · go_wp2_with fail
          go_meet
          case rel => exact ⟨wr.heap.size, rfl, rfl, Lib.hid hR7, Lib.hid hU7⟩
      case rest =>
        obtain ⟨b7, rfl, rfl, HR7, HUb⟩ := hcut
        clear k0 k1 k2 k3 k4 k5 k6 dd da HP HGI
        have HUc := Lib.hid (HUa.out.trans HUb.out)
        have hqf2 : q < wc.heap.size := Nat.lt_of_lt_of_le hqf HUb.out.size
        clear HUa HUb hqf
        go_upto_region 10 with (fail)
        generalize wc = wr at HR7 HUc hqf2 ⊢
        have ho := HUc.out.own HO4.out (fun _ _ h => h)
        obtain ⟨k0, k1, k2, k3, k4, k5, k6⟩ := own_rwc ho hiL
        rw [HRK.out] at k0 k1 k2 k3 k4 k5 k6
        have HP2 := Lib.hid (HD4.out.quiet HUc.out).p
        clear ho
        have dd : wr.drew.cell? ⟨q, i * 7, none⟩ = some (.int .u8 (r.p : Nat)) ∧ wr.drew.cell? ⟨q, i * 7 + 1, none⟩ = some (.int .u32 (r.oa : Nat)) ∧ wr.drew.cell? ⟨q, i * 7 + 2, none⟩ = some (.int .u16 (r.ob : Nat)) := ⟨k0, k1, k2⟩
        have da : (wr.alloc (.cells zrw 42)).drew.cell? ⟨q, i * 7, none⟩ = some (.int .u8 (r.p : Nat)) ∧ (wr.alloc (.cells zrw 42)).drew.cell? ⟨q, i * 7 + 1, none⟩ = some (.int .u32 (r.oa : Nat)) ∧ (wr.alloc (.cells zrw 42)).drew.cell? ⟨q, i * 7 + 2, none⟩ = some (.int .u16 (r.ob : Nat)) := ⟨keep_alloc k0 _, keep_alloc k1 _, keep_alloc k2 _⟩
        go_cut [9, 10] (fun u v wd => ∃ b : Nat, u = .pointer (some ⟨b, 0, none⟩) ∧ v = .bool true ∧ Hid (wd.rowIs b 42 7 (rwF r)) ∧ Hid (Upto NoS wr wd))
        case first =>
          go_region_held3 (fun w' => w'.cell? ⟨q, i * 7, none⟩ = some (.int .u8 (r.p : Nat)) ∧ w'.cell? ⟨q, i * 7 + 1, none⟩ = some (.int .u32 (r.oa : Nat)) ∧ w'.cell? ⟨q, i * 7 + 2, none⟩ = some (.int .u16 (r.ob : Nat)))
            (with_reducible first | exact dt | exact ds | exact ⟨keep_alloc ds.1 _, keep_alloc ds.2.1 _, keep_alloc ds.2.2 _⟩ | exact da | exact dd)
            (first
              | (go_at_call 15; (with_reducible refine (P_owner (wr := wr.drew) (HP2.out.quiet ((Upto.refl NoS wr).drew)) r.p r.oa r.ob HOK.out.p HOK.out.oa HOK.out.ob HGO.out.1 HGO.out.2).mono ?_); rintro e w3 ⟨rfl, hu3⟩; have ds : w3.cell? ⟨q, i * 7, none⟩ = some (.int .u8 (r.p : Nat)) ∧ w3.cell? ⟨q, i * 7 + 1, none⟩ = some (.int .u32 (r.oa : Nat)) ∧ w3.cell? ⟨q, i * 7 + 2, none⟩ = some (.int .u16 (r.ob : Nat)) := ⟨hu3.keep dd.1 id, hu3.keep dd.2.1 id, hu3.keep dd.2.2 id⟩)
              | (go_at_call 15; (with_reducible refine (P_owner (wr := (wr.alloc (.cells zrw 42)).drew) (HP2.out.quiet (((Upto.refl NoS wr).alloc (.cells zrw 42)).drew)) r.p r.oa r.ob HOK.out.p HOK.out.oa HOK.out.ob HGO.out.1 HGO.out.2).mono ?_); rintro e w3 ⟨rfl, hu3⟩; have ds : w3.cell? ⟨q, i * 7, none⟩ = some (.int .u8 (r.p : Nat)) ∧ w3.cell? ⟨q, i * 7 + 1, none⟩ = some (.int .u32 (r.oa : Nat)) ∧ w3.cell? ⟨q, i * 7 + 2, none⟩ = some (.int .u16 (r.ob : Nat)) := ⟨hu3.keep da.1 id, hu3.keep da.2.1 id, hu3.keep da.2.2 id⟩; obtain ⟨⟨e0, e1, e2, e3, e4, e5, e6⟩, ff⟩ := zr_cells hu3; have f0 := ff 0; have f1 := ff 1; have f2 := ff 2; have f3 := ff 3; have f4 := ff 4; have f5 := ff 5; have f6 := ff 6; obtain ⟨hR7, hU7⟩ := set7_in rfl hu3 r; have hu7 : Upto (fun i => i = wr.heap.size) w3 (((((((w3.setCell ⟨wr.heap.size, 0, none⟩ (.int .u8 (r.p : Nat))).setCell ⟨wr.heap.size, 1, none⟩ (.int .u32 (r.oa : Nat))).setCell ⟨wr.heap.size, 2, none⟩ (.int .u16 (r.ob : Nat))).setCell ⟨wr.heap.size, 3, none⟩ (.int .u32 (r.ia : Nat))).setCell ⟨wr.heap.size, 4, none⟩ (.int .u16 (r.ib : Nat))).setCell ⟨wr.heap.size, 5, none⟩ (.int .i64 (r.live : Nat))).setCell ⟨wr.heap.size, 6, none⟩ (.int .i64 (r.held : Nat))) := (((((((Upto.refl (fun i => i = wr.heap.size) w3).setB rfl _).setB rfl _).setB rfl _).setB rfl _).setB rfl _).setB rfl _).setB rfl _; have dt : (((((((w3.setCell ⟨wr.heap.size, 0, none⟩ (.int .u8 (r.p : Nat))).setCell ⟨wr.heap.size, 1, none⟩ (.int .u32 (r.oa : Nat))).setCell ⟨wr.heap.size, 2, none⟩ (.int .u16 (r.ob : Nat))).setCell ⟨wr.heap.size, 3, none⟩ (.int .u32 (r.ia : Nat))).setCell ⟨wr.heap.size, 4, none⟩ (.int .u16 (r.ib : Nat))).setCell ⟨wr.heap.size, 5, none⟩ (.int .i64 (r.live : Nat))).setCell ⟨wr.heap.size, 6, none⟩ (.int .i64 (r.held : Nat))).cell? ⟨q, i * 7, none⟩ = some (.int .u8 (r.p : Nat)) ∧ (((((((w3.setCell ⟨wr.heap.size, 0, none⟩ (.int .u8 (r.p : Nat))).setCell ⟨wr.heap.size, 1, none⟩ (.int .u32 (r.oa : Nat))).setCell ⟨wr.heap.size, 2, none⟩ (.int .u16 (r.ob : Nat))).setCell ⟨wr.heap.size, 3, none⟩ (.int .u32 (r.ia : Nat))).setCell ⟨wr.heap.size, 4, none⟩ (.int .u16 (r.ib : Nat))).setCell ⟨wr.heap.size, 5, none⟩ (.int .i64 (r.live : Nat))).setCell ⟨wr.heap.size, 6, none⟩ (.int .i64 (r.held : Nat))).cell? ⟨q, i * 7 + 1, none⟩ = some (.int .u32 (r.oa : Nat)) ∧ (((((((w3.setCell ⟨wr.heap.size, 0, none⟩ (.int .u8 (r.p : Nat))).setCell ⟨wr.heap.size, 1, none⟩ (.int .u32 (r.oa : Nat))).setCell ⟨wr.heap.size, 2, none⟩ (.int .u16 (r.ob : Nat))).setCell ⟨wr.heap.size, 3, none⟩ (.int .u32 (r.ia : Nat))).setCell ⟨wr.heap.size, 4, none⟩ (.int .u16 (r.ib : Nat))).setCell ⟨wr.heap.size, 5, none⟩ (.int .i64 (r.live : Nat))).setCell ⟨wr.heap.size, 6, none⟩ (.int .i64 (r.held : Nat))).cell? ⟨q, i * 7 + 2, none⟩ = some (.int .u16 (r.ob : Nat)) := ⟨hu7.keep ds.1 (fun e => by have e : q = wr.heap.size := e; omega), hu7.keep ds.2.1 (fun e => by have e : q = wr.heap.size := e; omega), hu7.keep ds.2.2 (fun e => by have e : q = wr.heap.size := e; omega)⟩))
          · go_wp2_with fail
            go_meet
            case rel => exact ⟨w3.heap.size, rfl, rfl, Lib.hid (new_r7 w3 r), Lib.hid ((((Upto.refl NoS wr).drew).trans hu3).alloc _)⟩
          · go_wp2_with fail
            go_meet
            case rel => exact ⟨wr.heap.size, rfl, rfl, Lib.hid hR7, Lib.hid hU7⟩
        case rest =>
          obtain ⟨b9, rfl, rfl, HR9, HUd⟩ := hcut
          clear k0 k1 k2 k3 k4 k5 k6 dd da HP2 HGO
          have HUe := Lib.hid (HUc.out.trans HUd.out)
          have HR7' := Lib.hid (HUd.out.row HR7.out id)
          clear HUc HUd HR7
          go_upto_region 11 with (fail)
          generalize wc = wr at HR7' HR9 HUe ⊢
          have ho := HUe.out.own HO4.out (fun _ _ h => h)
          obtain ⟨k0, k1, k2, k3, k4, k5, k6⟩ := own_rwc ho hiL
          rw [HRK.out] at k0 k1 k2 k3 k4 k5 k6
          obtain ⟨m0, m1, m2, m3, m4, m5, m6⟩ := rw_cells HR7'.out
          obtain ⟨n0, n1, n2, n3, n4, n5, n6⟩ := rw_cells HR9.out
          have q42 := fun w' => neq42 w' r
          have g42 := fun w' x y => guard42 w' x y r
          clear ho
          go_quiet (fail)
          go_wp2_with fail
          go_roundw
          case rel =>
            first
              | exact ⟨i + 1, by omega, by go_num, Lib.hid (HUe.out.drewN _)⟩
              | ((repeat apply Exists.intro); exact ⟨⟨i + 1, by omega, by go_num, Lib.hid (HUe.out.drewN _)⟩, rfl⟩)
          case measure => simp [intOf]; omega
    · obtain rfl : i = n := by omega
      go_wp2_with fail
      go_ret
      exact ⟨rfl, HU4.out.trans HU.out⟩
end Go.Proofs.Ytfiblchdfacdiaa
