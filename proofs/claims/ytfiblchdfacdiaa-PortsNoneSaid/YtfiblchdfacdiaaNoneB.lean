/- PortsNone, walked. -/
import Derived.Test.YtfiblchdfacdiaaNoneA
namespace Go.Proofs.Ytfiblchdfacdiaa
open Go Go.RowKit Go.Deep Go.Maps

def actF (ak ap ai ao as' a b c d e f g y z : Int) (i : Nat) : Value := if i = 0 then .int .u8 ak else if i = 1 then .int .u8 ap else if i = 2 then .int .u8 ai else if i = 3 then .int .u8 ao else if i = 4 then .int .u8 as' else if i = 5 then .int .u8 a else if i = 6 then .int .u32 b else if i = 7 then .int .u16 c else if i = 8 then .int .u32 d else if i = 9 then .int .u16 e else if i = 10 then .int .u16 f else if i = 11 then .int .u16 g else if i = 12 then .int .u32 y else .int .u16 z
theorem row_act (w : World) (ak ap ai ao as' a b c d e f g y z : Int) : (w.alloc (.cells #[.int .u8 ak, .int .u8 ap, .int .u8 ai, .int .u8 ao, .int .u8 as', .int .u8 a, .int .u32 b, .int .u16 c, .int .u32 d, .int .u16 e, .int .u16 f, .int .u16 g, .int .u32 y, .int .u16 z] 50)).rowIs w.heap.size 50 14 (actF ak ap ai ao as' a b c d e f g y z) :=
  World.rowIs_alloc w #[.int .u8 ak, .int .u8 ap, .int .u8 ai, .int .u8 ao, .int .u8 as', .int .u8 a, .int .u32 b, .int .u16 c, .int .u32 d, .int .u16 e, .int .u16 f, .int .u16 g, .int .u32 y, .int .u16 z] 50 _ (fun i hi => by
    have : i < 14 := hi
    match i, this with
    | 0, _ => rfl | 1, _ => rfl | 2, _ => rfl | 3, _ => rfl | 4, _ => rfl | 5, _ => rfl | 6, _ => rfl | 7, _ => rfl | 8, _ => rfl | 9, _ => rfl | 10, _ => rfl | 11, _ => rfl | 12, _ => rfl | 13, _ => rfl)
theorem act_cells {w : World} {k : Nat} {ak ap ai ao as' a b c d e f g y z : Int} (hR : w.rowIs k 50 14 (actF ak ap ai ao as' a b c d e f g y z)) : w.cell? ⟨k, 0, none⟩ = some (.int .u8 ak) ∧ w.cell? ⟨k, 1, none⟩ = some (.int .u8 ap) ∧ w.cell? ⟨k, 2, none⟩ = some (.int .u8 ai) ∧ w.cell? ⟨k, 3, none⟩ = some (.int .u8 ao) ∧ w.cell? ⟨k, 4, none⟩ = some (.int .u8 as') ∧ w.cell? ⟨k, 5, none⟩ = some (.int .u8 a) ∧ w.cell? ⟨k, 6, none⟩ = some (.int .u32 b) ∧ w.cell? ⟨k, 7, none⟩ = some (.int .u16 c) ∧ w.cell? ⟨k, 8, none⟩ = some (.int .u32 d) ∧ w.cell? ⟨k, 9, none⟩ = some (.int .u16 e) ∧ w.cell? ⟨k, 10, none⟩ = some (.int .u16 f) ∧ w.cell? ⟨k, 11, none⟩ = some (.int .u16 g) ∧ w.cell? ⟨k, 12, none⟩ = some (.int .u32 y) ∧ w.cell? ⟨k, 13, none⟩ = some (.int .u16 z) :=
  ⟨hR.cell (i := 0) (by omega), hR.cell (i := 1) (by omega), hR.cell (i := 2) (by omega), hR.cell (i := 3) (by omega), hR.cell (i := 4) (by omega), hR.cell (i := 5) (by omega), hR.cell (i := 6) (by omega), hR.cell (i := 7) (by omega), hR.cell (i := 8) (by omega), hR.cell (i := 9) (by omega), hR.cell (i := 10) (by omega), hR.cell (i := 11) (by omega), hR.cell (i := 12) (by omega), hR.cell (i := 13) (by omega)⟩

theorem Of_np0 (w : World) (v : Option Addr) (p a b : Int) (h : NP w v) : Calls Try.prog 25 #[.pointer v, .int .u8 p, vEp a b] w (Told (.tuple #[.agg #[.int .u8 0, .int .u32 0, .int .u16 0, .int .u32 0, .int .u16 0, .int .i64 0, .int .i64 0], .bool false]) w) := Of_np w v p a b h
theorem Owner_np0 (w : World) (v : Option Addr) (p a b : Int) (h : NP w v) : Calls Try.prog 15 #[.pointer v, .int .u8 p, vEp a b] w (Told (.tuple #[.agg #[.int .u8 0, .int .u32 0, .int .u16 0, .int .u32 0, .int .u16 0, .int .i64 0, .int .i64 0], .bool false]) w) := Owner_np w v p a b h
theorem rr7 {w : World} {k : Nat} {p a b c d l h : Int} (hR : w.rowIs k 42 7 (rrF p a b c d l h)) :
    w.cell? ⟨k, 0, none⟩ = some (.int .u8 p) ∧ w.cell? ⟨k, 1, none⟩ = some (.int .u32 a) ∧ w.cell? ⟨k, 2, none⟩ = some (.int .u16 b) ∧ w.cell? ⟨k, 3, none⟩ = some (.int .u32 c) ∧ w.cell? ⟨k, 4, none⟩ = some (.int .u16 d) ∧ w.cell? ⟨k, 5, none⟩ = some (.int .i64 l) ∧ w.cell? ⟨k, 6, none⟩ = some (.int .i64 h) :=
  ⟨hR.cell (i := 0) (by omega), hR.cell (i := 1) (by omega), hR.cell (i := 2) (by omega), hR.cell (i := 3) (by omega), hR.cell (i := 4) (by omega), hR.cell (i := 5) (by omega), hR.cell (i := 6) (by omega)⟩

set_option maxRecDepth 100000 in
set_option maxHeartbeats 4000000 in
theorem noneLaw_walk (w : World) (ak ap ai ao as' a b c d e f g y z : Int) : Calls Try.prog 7 #[.agg #[.int .u8 ak, .int .u8 ap, .int .u8 ai, .int .u8 ao, .int .u8 as', .int .u8 a, .int .u32 b, .int .u16 c, .int .u32 d, .int .u16 e, .int .u16 f, .int .u16 g, .int .u32 y, .int .u16 z]] w (Told (.bool true) w) := by
  have hA0 := row_act w ak ap ai ao as' a b c d e f g y z
  have u0 := (Upto.refl NoS w).alloc (.cells #[.int .u8 ak, .int .u8 ap, .int .u8 ai, .int .u8 ao, .int .u8 as', .int .u8 a, .int .u32 b, .int .u16 c, .int .u32 d, .int .u16 e, .int .u16 f, .int .u16 g, .int .u32 y, .int .u16 z] 50)
  go_enter Try.func7, Try.ntmps7
  go_wp2_with fail
  go_loopw [3, 4] (fun v t wr => ∃ (k : Nat) (o : Option Addr), k ≤ 2 ∧ v = .pointer o ∧ t = .int .i64 k ∧ NP wr o ∧ wr.rowIs w.heap.size 50 14 (actF ak ap ai ao as' a b c d e f g y z) ∧ Upto NoS w wr)
    (fun _ t _ => 2 - (intOf t).toNat)
  case atStart => exact ⟨0, none, by omega, rfl, rfl, .inl rfl, hA0, u0⟩
  case round =>
    clear hA0 u0
    obtain ⟨k, o, hk, rfl, rfl, hN, hA, hU⟩ := hrel
    by_cases hlt : k < 2
    · obtain ⟨p0, p1, p2, p3, p4, p5, p6, p7, p8, p9, p10, p11, p12, p13⟩ := act_cells hA
      go_wp2_with fail
      refine (Take_np _ o a b c d e f g (hN)).mono ?_
      rintro e1 w1 ⟨rfl, u1⟩
      clear p0 p1 p2 p3 p4 p5 p6 p7 p8 p9 p10 p11 p12 p13
      have hA' := u1.row (hA) (fun h => h.elim)
      have hN' := (hN).upto u1
      have hU' := (hU).trans u1
      clear hA
      clear hN
      clear hU
      have hA := hA'
      clear hA'
      have hN := hN'
      clear hN'
      have hU := hU'
      clear hU'
      obtain ⟨p0, p1, p2, p3, p4, p5, p6, p7, p8, p9, p10, p11, p12, p13⟩ := act_cells ((hA).alloc (.cells #[.int .u32 0, .int .u16 0] 26))
      go_wp2_with fail
      refine (Of_np0 _ o ap y z ((hN).alloc (.cells #[.int .u32 0, .int .u16 0] 26))).mono ?_
      rintro e1 w2 ⟨rfl, u2⟩
      clear p0 p1 p2 p3 p4 p5 p6 p7 p8 p9 p10 p11 p12 p13
      have hA' := u2.row ((hA).alloc (.cells #[.int .u32 0, .int .u16 0] 26)) (fun h => h.elim)
      have qa0 := row_ep (w1) 0 0
      have qa' := u2.row (qa0) (fun h => h.elim)
      have hN' := ((hN).alloc (.cells #[.int .u32 0, .int .u16 0] 26)).upto u2
      have hU' := ((hU).alloc (.cells #[.int .u32 0, .int .u16 0] 26)).trans u2
      clear hA
      clear hN
      clear hU
      have hA := hA'
      clear hA'
      have qa := qa'
      clear qa'
      have hN := hN'
      clear hN'
      have hU := hU'
      clear hU'
      obtain ⟨p0, p1, p2, p3, p4, p5, p6, p7, p8, p9, p10, p11, p12, p13⟩ := act_cells ((hA).alloc (.cells #[.int .u8 0, .int .u32 0, .int .u16 0, .int .u32 0, .int .u16 0, .int .i64 0, .int .i64 0] 42))
      go_wp2_with fail
      refine (Owner_np0 _ o ap y z ((hN).alloc (.cells #[.int .u8 0, .int .u32 0, .int .u16 0, .int .u32 0, .int .u16 0, .int .i64 0, .int .i64 0] 42))).mono ?_
      rintro e1 w3 ⟨rfl, u3⟩
      clear p0 p1 p2 p3 p4 p5 p6 p7 p8 p9 p10 p11 p12 p13
      have hA' := u3.row ((hA).alloc (.cells #[.int .u8 0, .int .u32 0, .int .u16 0, .int .u32 0, .int .u16 0, .int .i64 0, .int .i64 0] 42)) (fun h => h.elim)
      have qa' := u3.row ((qa).alloc (.cells #[.int .u8 0, .int .u32 0, .int .u16 0, .int .u32 0, .int .u16 0, .int .i64 0, .int .i64 0] 42)) (fun h => h.elim)
      have qr0 := row_rr (w2) 0 0 0 0 0 0 0
      have qr' := u3.row (qr0) (fun h => h.elim)
      have hN' := ((hN).alloc (.cells #[.int .u8 0, .int .u32 0, .int .u16 0, .int .u32 0, .int .u16 0, .int .i64 0, .int .i64 0] 42)).upto u3
      have hU' := ((hU).alloc (.cells #[.int .u8 0, .int .u32 0, .int .u16 0, .int .u32 0, .int .u16 0, .int .i64 0, .int .i64 0] 42)).trans u3
      clear hA
      clear qa
      clear hN
      clear hU
      have hA := hA'
      clear hA'
      have qa := qa'
      clear qa'
      have qr := qr'
      clear qr'
      have hN := hN'
      clear hN'
      have hU := hU'
      clear hU'
      obtain ⟨p0, p1, p2, p3, p4, p5, p6, p7, p8, p9, p10, p11, p12, p13⟩ := act_cells ((hA).alloc (.cells #[.int .u8 0, .int .u32 0, .int .u16 0, .int .u32 0, .int .u16 0, .int .i64 0, .int .i64 0] 42))
      obtain ⟨qa1, qa2⟩ := ep2 ((qa).alloc (.cells #[.int .u8 0, .int .u32 0, .int .u16 0, .int .u32 0, .int .u16 0, .int .i64 0, .int .i64 0] 42))
      go_wp2_with fail
      refine (Fix_np _ o ap y z y z ((hN).alloc (.cells #[.int .u8 0, .int .u32 0, .int .u16 0, .int .u32 0, .int .u16 0, .int .i64 0, .int .i64 0] 42))).mono ?_
      rintro e1 w4 ⟨rfl, u4⟩
      clear p0 p1 p2 p3 p4 p5 p6 p7 p8 p9 p10 p11 p12 p13
      have hA' := u4.row ((hA).alloc (.cells #[.int .u8 0, .int .u32 0, .int .u16 0, .int .u32 0, .int .u16 0, .int .i64 0, .int .i64 0] 42)) (fun h => h.elim)
      have qa' := u4.row ((qa).alloc (.cells #[.int .u8 0, .int .u32 0, .int .u16 0, .int .u32 0, .int .u16 0, .int .i64 0, .int .i64 0] 42)) (fun h => h.elim)
      have qr' := u4.row ((qr).alloc (.cells #[.int .u8 0, .int .u32 0, .int .u16 0, .int .u32 0, .int .u16 0, .int .i64 0, .int .i64 0] 42)) (fun h => h.elim)
      have qs0 := row_rr (w3) 0 0 0 0 0 0 0
      have qs' := u4.row (qs0) (fun h => h.elim)
      have hN' := ((hN).alloc (.cells #[.int .u8 0, .int .u32 0, .int .u16 0, .int .u32 0, .int .u16 0, .int .i64 0, .int .i64 0] 42)).upto u4
      have hU' := ((hU).alloc (.cells #[.int .u8 0, .int .u32 0, .int .u16 0, .int .u32 0, .int .u16 0, .int .i64 0, .int .i64 0] 42)).trans u4
      clear hA
      clear qa
      clear qr
      clear hN
      clear hU
      have hA := hA'
      clear hA'
      have qa := qa'
      clear qa'
      have qr := qr'
      clear qr'
      have qs := qs'
      clear qs'
      have hN := hN'
      clear hN'
      have hU := hU'
      clear hU'
      clear qa1 qa2
      obtain ⟨p0, p1, p2, p3, p4, p5, p6, p7, p8, p9, p10, p11, p12, p13⟩ := act_cells (hA)
      go_wp2_with fail
      refine (Confirm_np _ o ap y z (hN)).mono ?_
      rintro e1 w5 ⟨rfl, u5⟩
      clear p0 p1 p2 p3 p4 p5 p6 p7 p8 p9 p10 p11 p12 p13
      have hA' := u5.row (hA) (fun h => h.elim)
      have qa' := u5.row (qa) (fun h => h.elim)
      have qr' := u5.row (qr) (fun h => h.elim)
      have qs' := u5.row (qs) (fun h => h.elim)
      have hN' := (hN).upto u5
      have hU' := (hU).trans u5
      clear hA
      clear qa
      clear qr
      clear qs
      clear hN
      clear hU
      have hA := hA'
      clear hA'
      have qa := qa'
      clear qa'
      have qr := qr'
      clear qr'
      have qs := qs'
      clear qs'
      have hN := hN'
      clear hN'
      have hU := hU'
      clear hU'
      obtain ⟨p0, p1, p2, p3, p4, p5, p6, p7, p8, p9, p10, p11, p12, p13⟩ := act_cells (hA)
      go_wp2_with fail
      refine (Drop_np _ o ap y z (hN)).mono ?_
      rintro e1 w6 ⟨rfl, u6⟩
      clear p0 p1 p2 p3 p4 p5 p6 p7 p8 p9 p10 p11 p12 p13
      have hA' := u6.row (hA) (fun h => h.elim)
      have qa' := u6.row (qa) (fun h => h.elim)
      have qr' := u6.row (qr) (fun h => h.elim)
      have qs' := u6.row (qs) (fun h => h.elim)
      have hN' := (hN).upto u6
      have hU' := (hU).trans u6
      clear hA
      clear qa
      clear qr
      clear qs
      clear hN
      clear hU
      have hA := hA'
      clear hA'
      have qa := qa'
      clear qa'
      have qr := qr'
      clear qr'
      have qs := qs'
      clear qs'
      have hN := hN'
      clear hN'
      have hU := hU'
      clear hU'
      obtain ⟨p0, p1, p2, p3, p4, p5, p6, p7, p8, p9, p10, p11, p12, p13⟩ := act_cells (hA)
      go_wp2_with fail
      refine (Release_np _ o ap y z (hN)).mono ?_
      rintro e1 w7 ⟨rfl, u7⟩
      clear p0 p1 p2 p3 p4 p5 p6 p7 p8 p9 p10 p11 p12 p13
      have hA' := u7.row (hA) (fun h => h.elim)
      have qa' := u7.row (qa) (fun h => h.elim)
      have qr' := u7.row (qr) (fun h => h.elim)
      have qs' := u7.row (qs) (fun h => h.elim)
      have hN' := (hN).upto u7
      have hU' := (hU).trans u7
      clear hA
      clear qa
      clear qr
      clear qs
      clear hN
      clear hU
      have hA := hA'
      clear hA'
      have qa := qa'
      clear qa'
      have qr := qr'
      clear qr'
      have qs := qs'
      clear qs'
      have hN := hN'
      clear hN'
      have hU := hU'
      clear hU'
      obtain ⟨p0, p1, p2, p3, p4, p5, p6, p7, p8, p9, p10, p11, p12, p13⟩ := act_cells (hA)
      obtain ⟨qr0, qr1, qr2, qr3, qr4, qr5, qr6⟩ := rr7 (qr)
      obtain ⟨qs0, qs1, qs2, qs3, qs4, qs5, qs6⟩ := rr7 (qs)
      go_wp2_with fail
      refine (List_np _ o (hN)).mono ?_
      rintro e1 w8 ⟨rfl, u8⟩
      clear p0 p1 p2 p3 p4 p5 p6 p7 p8 p9 p10 p11 p12 p13
      have hA' := u8.row (hA) (fun h => h.elim)
      have qa' := u8.row (qa) (fun h => h.elim)
      have qr' := u8.row (qr) (fun h => h.elim)
      have qs' := u8.row (qs) (fun h => h.elim)
      have hN' := (hN).upto u8
      have hU' := (hU).trans u8
      clear hA
      clear qa
      clear qr
      clear qs
      clear hN
      clear hU
      have hA := hA'
      clear hA'
      have qa := qa'
      clear qa'
      have qr := qr'
      clear qr'
      have qs := qs'
      clear qs'
      have hN := hN'
      clear hN'
      have hU := hU'
      clear hU'
      obtain ⟨p0, p1, p2, p3, p4, p5, p6, p7, p8, p9, p10, p11, p12, p13⟩ := act_cells (hA)
      go_wp2_with fail
      refine (Count_np _ o (hN)).mono ?_
      rintro e1 w9 ⟨rfl, u9⟩
      clear p0 p1 p2 p3 p4 p5 p6 p7 p8 p9 p10 p11 p12 p13
      have hA' := u9.row (hA) (fun h => h.elim)
      have qa' := u9.row (qa) (fun h => h.elim)
      have qr' := u9.row (qr) (fun h => h.elim)
      have qs' := u9.row (qs) (fun h => h.elim)
      have hN' := (hN).upto u9
      have hU' := (hU).trans u9
      clear hA
      clear qa
      clear qr
      clear qs
      clear hN
      clear hU
      have hA := hA'
      clear hA'
      have qa := qa'
      clear qa'
      have qr := qr'
      clear qr'
      have qs := qs'
      clear qs'
      have hN := hN'
      clear hN'
      have hU := hU'
      clear hU'
      obtain ⟨p0, p1, p2, p3, p4, p5, p6, p7, p8, p9, p10, p11, p12, p13⟩ := act_cells (hA)
      go_wp2_with fail
      refine (Copy_np _ o (hN)).mono ?_
      rintro e1 w10 ⟨rfl, u10⟩
      clear p0 p1 p2 p3 p4 p5 p6 p7 p8 p9 p10 p11 p12 p13
      have hA' := u10.row (hA) (fun h => h.elim)
      have qa' := u10.row (qa) (fun h => h.elim)
      have qr' := u10.row (qr) (fun h => h.elim)
      have qs' := u10.row (qs) (fun h => h.elim)
      have hN' := (hN).upto u10
      have hU' := (hU).trans u10
      clear hA
      clear qa
      clear qr
      clear qs
      clear hN
      clear hU
      have hA := hA'
      clear hA'
      have qa := qa'
      clear qa'
      have qr := qr'
      clear qr'
      have qs := qs'
      clear qs'
      have hN := hN'
      clear hN'
      have hU := hU'
      clear hU'
      go_wp2_with fail
      refine ⟨⟨k + 1, some ⟨w10.heap.size, 0, none⟩, by omega, rfl, by go_num, .inr ⟨_, rfl, new_1 w10 #[.map none, .map none] 68 0 _ rfl⟩, hA.alloc _, hU.alloc _⟩, by simp [intOf]; omega⟩
    · go_wp2_with (go_at_call 8; refine (let_any _).mono ?_; rintro e w2 ⟨rfl, hu⟩)
      go_ret
      exact ⟨rfl, hU.trans hu⟩
end Go.Proofs.Ytfiblchdfacdiaa
