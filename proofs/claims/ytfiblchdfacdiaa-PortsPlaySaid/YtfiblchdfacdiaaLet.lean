/- The chapter's example of ports: true. -/
import Derived.Test.YtfiblchdfacdiaaLetA
namespace Go.Proofs.Ytfiblchdfacdiaa
open Go Go.RowKit Go.Deep Go.Maps

def wsF (p a b c f t d : Int) (i : Nat) : Value := if i = 0 then .int .u8 p else if i = 1 then .int .u32 a else if i = 2 then .int .u16 b else if i = 3 then .int .u32 c else if i = 4 then .int .u16 f else if i = 5 then .int .u16 t else .int .u16 d
def epF (a b : Int) (i : Nat) : Value := if i = 0 then .int .u32 a else .int .u16 b
def rrF (p a b c d l h : Int) (i : Nat) : Value := if i = 0 then .int .u8 p else if i = 1 then .int .u32 a else if i = 2 then .int .u16 b else if i = 3 then .int .u32 c else if i = 4 then .int .u16 d else if i = 5 then .int .i64 l else .int .i64 h
theorem rowIs_drew {w : World} {b t n : Nat} {f : Nat → Value} (h : w.rowIs b t n f) : w.drew.rowIs b t n f := h
theorem row_ws (w : World) (p a b c f t d : Int) : (w.alloc (.cells #[.int .u8 p, .int .u32 a, .int .u16 b, .int .u32 c, .int .u16 f, .int .u16 t, .int .u16 d] 28)).rowIs w.heap.size 28 7 (wsF p a b c f t d) :=
  World.rowIs_alloc w #[.int .u8 p, .int .u32 a, .int .u16 b, .int .u32 c, .int .u16 f, .int .u16 t, .int .u16 d] 28 _ (fun i hi => by
    have : i < 7 := hi
    match i, this with
    | 0, _ => rfl | 1, _ => rfl | 2, _ => rfl | 3, _ => rfl | 4, _ => rfl | 5, _ => rfl | 6, _ => rfl)
theorem row_ep (w : World) (a b : Int) : (w.alloc (.cells #[.int .u32 a, .int .u16 b] 26)).rowIs w.heap.size 26 2 (epF a b) :=
  World.rowIs_alloc w #[.int .u32 a, .int .u16 b] 26 _ (fun i hi => by
    have : i < 2 := hi
    match i, this with
    | 0, _ => rfl | 1, _ => rfl)
theorem row_rr (w : World) (p a b c d l h : Int) : (w.alloc (.cells #[.int .u8 p, .int .u32 a, .int .u16 b, .int .u32 c, .int .u16 d, .int .i64 l, .int .i64 h] 42)).rowIs w.heap.size 42 7 (rrF p a b c d l h) :=
  World.rowIs_alloc w #[.int .u8 p, .int .u32 a, .int .u16 b, .int .u32 c, .int .u16 d, .int .i64 l, .int .i64 h] 42 _ (fun i hi => by
    have : i < 7 := hi
    match i, this with
    | 0, _ => rfl | 1, _ => rfl | 2, _ => rfl | 3, _ => rfl | 4, _ => rfl | 5, _ => rfl | 6, _ => rfl)
theorem ws7 {w : World} {k : Nat} {p a b c f t d : Int} (hR : w.rowIs k 28 7 (wsF p a b c f t d)) :
    w.cell? ⟨k, 0, none⟩ = some (.int .u8 p) ∧ w.cell? ⟨k, 1, none⟩ = some (.int .u32 a) ∧ w.cell? ⟨k, 2, none⟩ = some (.int .u16 b) ∧ w.cell? ⟨k, 3, none⟩ = some (.int .u32 c) ∧ w.cell? ⟨k, 4, none⟩ = some (.int .u16 f) ∧ w.cell? ⟨k, 5, none⟩ = some (.int .u16 t) ∧ w.cell? ⟨k, 6, none⟩ = some (.int .u16 d) :=
  ⟨hR.cell (i := 0) (by omega), hR.cell (i := 1) (by omega), hR.cell (i := 2) (by omega), hR.cell (i := 3) (by omega), hR.cell (i := 4) (by omega), hR.cell (i := 5) (by omega), hR.cell (i := 6) (by omega)⟩
theorem ep2 {w : World} {k : Nat} {a b : Int} (hR : w.rowIs k 26 2 (epF a b)) : w.cell? ⟨k, 0, none⟩ = some (.int .u32 a) ∧ w.cell? ⟨k, 1, none⟩ = some (.int .u16 b) :=
  ⟨hR.cell (i := 0) (by omega), hR.cell (i := 1) (by omega)⟩

set_option maxRecDepth 100000 in
set_option maxHeartbeats 2000000 in
theorem let_any (w : World) : Calls Try.prog 8 #[] w (Told (.bool true) w) := by
  go_enter Try.func8, Try.ntmps8
  go_wp2_with (go_at_call 9; refine (New_any _).mono ?_; rintro e w1 ⟨x, rb, ob, rfl, h1, u1, hx, hrb, hob⟩)
  refine (call_a _ x rb ob (h1.alloc _)).mono ?_
  rintro e w2 ⟨rfl, k1, hk1, h2, u2⟩
  have b1 := h1.rows.lt
  have b2 := h1.of_.lt
  have s2 : w1.heap.size + 1 ≤ w2.heap.size := by have := u2.size; simpa using this
  have q1 : w1.heap.size + 1 ≤ k1 := by simpa using hk1
  have t2 := u2.row (row_ws w1 17 1 4000 9 1000 2000 5) (fun (e : w1.heap.size = rb ∨ w1.heap.size = ob) => by omega)
  have hb := u1.size
  have k1l := (h2.blk (Ra, k1) (by simp)).lt
  clear h1 hk1
  have a2 := t2.alloc (.cells #[.int .u32 9, .int .u16 1006] 26)
  obtain ⟨d0, d1, d2, d3, d4, d5, d6⟩ := ws7 a2
  obtain ⟨e0, e1, e2, e3, e4, e5, e6⟩ := ws7 (a2.alloc (.cells #[.int .u8 0, .int .u32 0, .int .u16 0, .int .u32 0, .int .u16 0, .int .u16 0, .int .u16 0] 28))
  obtain ⟨f0, f1, f2, f3, f4, f5, f6⟩ := ws7 ((a2.alloc (.cells #[.int .u8 0, .int .u32 0, .int .u16 0, .int .u32 0, .int .u16 0, .int .u16 0, .int .u16 0] 28)).alloc (.cells #[.int .u8 0, .int .u32 0, .int .u16 0, .int .u32 0, .int .u16 0, .int .u16 0, .int .u16 0] 28))
  obtain ⟨g0, g1, g2, g3, g4, g5, g6⟩ := ws7 ((a2.alloc (.cells #[.int .u8 17, .int .u32 1, .int .u16 4000, .int .u32 9, .int .u16 1000, .int .u16 2000, .int .u16 5] 28)).alloc (.cells #[.int .u8 0, .int .u32 0, .int .u16 0, .int .u32 0, .int .u16 0, .int .u16 0, .int .u16 0] 28))
  obtain ⟨l0, l1, l2, l3, l4, l5, l6⟩ := ws7 ((a2.alloc (.cells #[.int .u8 0, .int .u32 0, .int .u16 0, .int .u32 0, .int .u16 0, .int .u16 0, .int .u16 0] 28)).alloc (.cells #[.int .u8 17, .int .u32 1, .int .u16 4000, .int .u32 9, .int .u16 1000, .int .u16 2000, .int .u16 5] 28))
  go_wp2_with fail
  go_region
  · go_wp2_with fail
    clear a2 d0 d1 d2 d3 d4 d5 d6 e0 e1 e2 e3 e4 e5 e6 f0 f1 f2 f3 f4 f5 f6 g0 g1 g2 g3 g4 g5 g6 l0 l1 l2 l3 l4 l5 l6
    refine (call_b _ x rb ob k1 (((((h2).alloc (.cells #[.int .u32 9, .int .u16 1006] 26)).alloc (.cells #[.int .u8 17, .int .u32 2, .int .u16 1006, .int .u32 9, .int .u16 1000, .int .u16 2000, .int .u16 5] 28)).alloc (.cells #[.int .u8 17, .int .u32 3, .int .u16 1500, .int .u32 9, .int .u16 1000, .int .u16 2000, .int .u16 5] 28)).drew)).mono ?_
    rintro e w3 ⟨rfl, k2, hk2, h3, u3⟩
    have s3 : w2.heap.size + 3 ≤ w3.heap.size := by have := u3.size; simpa using this
    have t2' := u3.row (rowIs_drew ((((t2).alloc (.cells #[.int .u32 9, .int .u16 1006] 26)).alloc (.cells #[.int .u8 17, .int .u32 2, .int .u16 1006, .int .u32 9, .int .u16 1000, .int .u16 2000, .int .u16 5] 28)).alloc (.cells #[.int .u8 17, .int .u32 3, .int .u16 1500, .int .u32 9, .int .u16 1000, .int .u16 2000, .int .u16 5] 28))) (fun (e : w1.heap.size = rb ∨ w1.heap.size = ob) => by omega)
    have a0 := row_ep (w2) 9 1006
    have a' := u3.row (rowIs_drew (((a0).alloc (.cells #[.int .u8 17, .int .u32 2, .int .u16 1006, .int .u32 9, .int .u16 1000, .int .u16 2000, .int .u16 5] 28)).alloc (.cells #[.int .u8 17, .int .u32 3, .int .u16 1500, .int .u32 9, .int .u16 1000, .int .u16 2000, .int .u16 5] 28))) (fun (e : w2.heap.size = rb ∨ w2.heap.size = ob) => by omega)
    have u0 := row_ws (((w2).alloc (.cells #[.int .u32 9, .int .u16 1006] 26)).alloc (.cells #[.int .u8 17, .int .u32 2, .int .u16 1006, .int .u32 9, .int .u16 1000, .int .u16 2000, .int .u16 5] 28)) 17 3 1500 9 1000 2000 5
    simp only [World.size_alloc] at u0
    have u' := u3.row (rowIs_drew (u0)) (fun (e : (w2.heap.size + 1 + 1) = rb ∨ (w2.heap.size + 1 + 1) = ob) => by omega)
    clear t2
    have t2 := t2'
    clear t2'
    clear a0
    have a := a'
    clear a'
    clear u0
    have u := u'
    clear u'
    obtain ⟨d0, d1, d2, d3, d4, d5, d6⟩ := ws7 (u.alloc (.cells #[.int .u32 9, .int .u16 1008] 26))
    go_wp2_with fail
    clear d0 d1 d2 d3 d4 d5 d6
    refine (call_c _ x rb ob k1 k2 ((h3).alloc (.cells #[.int .u32 9, .int .u16 1008] 26))).mono ?_
    rintro e w4 ⟨rfl, k3, hk3, h4, u4⟩
    have s4 : w3.heap.size + 1 ≤ w4.heap.size := by have := u4.size; simpa using this
    have t2' := u4.row ((t2).alloc (.cells #[.int .u32 9, .int .u16 1008] 26)) (fun (e : w1.heap.size = rb ∨ w1.heap.size = ob) => by omega)
    have a' := u4.row ((a).alloc (.cells #[.int .u32 9, .int .u16 1008] 26)) (fun (e : w2.heap.size = rb ∨ w2.heap.size = ob) => by omega)
    have b0 := row_ep (w3) 9 1008
    have b' := u4.row (b0) (fun (e : w3.heap.size = rb ∨ w3.heap.size = ob) => by omega)
    clear t2
    have t2 := t2'
    clear t2'
    clear a
    have a := a'
    clear a'
    clear b0
    have b := b'
    clear b'
    obtain ⟨d0, d1, d2, d3, d4, d5, d6⟩ := ws7 (t2.alloc (.cells #[.int .u32 9, .int .u16 1500] 26))
    go_wp2_with fail
    clear d0 d1 d2 d3 d4 d5 d6
    refine (call_d _ x rb ob k1 k2 k3 ((h4).alloc (.cells #[.int .u32 9, .int .u16 1500] 26))).mono ?_
    rintro e w5 ⟨rfl, h5, u5⟩
    have s5 : w4.heap.size + 1 ≤ w5.heap.size := by have := u5.size; simpa using this
    have t2' := u5.row ((t2).alloc (.cells #[.int .u32 9, .int .u16 1500] 26)) (fun (e : w1.heap.size = k1) => by omega)
    have a' := u5.row ((a).alloc (.cells #[.int .u32 9, .int .u16 1500] 26)) (fun (e : w2.heap.size = k1) => by omega)
    have b' := u5.row ((b).alloc (.cells #[.int .u32 9, .int .u16 1500] 26)) (fun (e : w3.heap.size = k1) => by omega)
    have c0 := row_ep (w4) 9 1500
    have c' := u5.row (c0) (fun (e : w4.heap.size = k1) => by omega)
    clear t2
    have t2 := t2'
    clear t2'
    clear a
    have a := a'
    clear a'
    clear b
    have b := b'
    clear b'
    clear c0
    have c := c'
    clear c'
    obtain ⟨d0, d1, d2, d3, d4, d5, d6⟩ := ws7 (t2.alloc (.cells #[.int .u32 9, .int .u16 1006] 26))
    go_wp2_with fail
    clear d0 d1 d2 d3 d4 d5 d6
    refine (call_o _ x rb ob k1 k2 k3 ((h5).alloc (.cells #[.int .u32 9, .int .u16 1006] 26))).mono ?_
    rintro e w6 ⟨rfl, u6⟩
    have s6 : w5.heap.size + 1 ≤ w6.heap.size := by have := u6.size; simpa using this
    have a' := u6.row ((a).alloc (.cells #[.int .u32 9, .int .u16 1006] 26)) (fun h => h.elim)
    have b' := u6.row ((b).alloc (.cells #[.int .u32 9, .int .u16 1006] 26)) (fun h => h.elim)
    have c' := u6.row ((c).alloc (.cells #[.int .u32 9, .int .u16 1006] 26)) (fun h => h.elim)
    have d0 := row_ep (w5) 9 1006
    have d' := u6.row (d0) (fun h => h.elim)
    clear a
    have a := a'
    clear a'
    clear b
    have b := b'
    clear b'
    clear c
    have c := c'
    clear c'
    clear d0
    have d := d'
    clear d'
    have h6 := (h5.alloc (.cells #[.int .u32 9, .int .u16 1006] 26)).upto u6
    go_wp2_with fail
    refine (call_e _ x rb ob k1 k2 k3 ((((h6).alloc (.cells #[.int .u8 17, .int .u32 9, .int .u16 1006, .int .u32 1, .int .u16 4000, .int .i64 0, .int .i64 2] 42)).alloc (.cells #[.int .u8 0, .int .u32 0, .int .u16 1, .int .u32 0, .int .u16 7, .int .u16 7, .int .u16 0] 28)).alloc (.cells #[.int .u8 0, .int .u32 0, .int .u16 2, .int .u32 0, .int .u16 7, .int .u16 7, .int .u16 0] 28))).mono ?_
    rintro e w7 ⟨rfl, k4, hk4, h7, u7⟩
    have s7 : w6.heap.size + 3 ≤ w7.heap.size := by have := u7.size; simpa using this
    have a' := u7.row ((((a).alloc (.cells #[.int .u8 17, .int .u32 9, .int .u16 1006, .int .u32 1, .int .u16 4000, .int .i64 0, .int .i64 2] 42)).alloc (.cells #[.int .u8 0, .int .u32 0, .int .u16 1, .int .u32 0, .int .u16 7, .int .u16 7, .int .u16 0] 28)).alloc (.cells #[.int .u8 0, .int .u32 0, .int .u16 2, .int .u32 0, .int .u16 7, .int .u16 7, .int .u16 0] 28)) (fun (e : w2.heap.size = rb ∨ w2.heap.size = ob) => by omega)
    have b' := u7.row ((((b).alloc (.cells #[.int .u8 17, .int .u32 9, .int .u16 1006, .int .u32 1, .int .u16 4000, .int .i64 0, .int .i64 2] 42)).alloc (.cells #[.int .u8 0, .int .u32 0, .int .u16 1, .int .u32 0, .int .u16 7, .int .u16 7, .int .u16 0] 28)).alloc (.cells #[.int .u8 0, .int .u32 0, .int .u16 2, .int .u32 0, .int .u16 7, .int .u16 7, .int .u16 0] 28)) (fun (e : w3.heap.size = rb ∨ w3.heap.size = ob) => by omega)
    have c' := u7.row ((((c).alloc (.cells #[.int .u8 17, .int .u32 9, .int .u16 1006, .int .u32 1, .int .u16 4000, .int .i64 0, .int .i64 2] 42)).alloc (.cells #[.int .u8 0, .int .u32 0, .int .u16 1, .int .u32 0, .int .u16 7, .int .u16 7, .int .u16 0] 28)).alloc (.cells #[.int .u8 0, .int .u32 0, .int .u16 2, .int .u32 0, .int .u16 7, .int .u16 7, .int .u16 0] 28)) (fun (e : w4.heap.size = rb ∨ w4.heap.size = ob) => by omega)
    have d' := u7.row ((((d).alloc (.cells #[.int .u8 17, .int .u32 9, .int .u16 1006, .int .u32 1, .int .u16 4000, .int .i64 0, .int .i64 2] 42)).alloc (.cells #[.int .u8 0, .int .u32 0, .int .u16 1, .int .u32 0, .int .u16 7, .int .u16 7, .int .u16 0] 28)).alloc (.cells #[.int .u8 0, .int .u32 0, .int .u16 2, .int .u32 0, .int .u16 7, .int .u16 7, .int .u16 0] 28)) (fun (e : w5.heap.size = rb ∨ w5.heap.size = ob) => by omega)
    have r0 := row_rr (w6) 17 9 1006 1 4000 0 2
    have r' := u7.row (((r0).alloc (.cells #[.int .u8 0, .int .u32 0, .int .u16 1, .int .u32 0, .int .u16 7, .int .u16 7, .int .u16 0] 28)).alloc (.cells #[.int .u8 0, .int .u32 0, .int .u16 2, .int .u32 0, .int .u16 7, .int .u16 7, .int .u16 0] 28)) (fun (e : w6.heap.size = rb ∨ w6.heap.size = ob) => by omega)
    have f0 := row_ws (((w6).alloc (.cells #[.int .u8 17, .int .u32 9, .int .u16 1006, .int .u32 1, .int .u16 4000, .int .i64 0, .int .i64 2] 42)).alloc (.cells #[.int .u8 0, .int .u32 0, .int .u16 1, .int .u32 0, .int .u16 7, .int .u16 7, .int .u16 0] 28)) 0 0 2 0 7 7 0
    simp only [World.size_alloc] at f0
    have f' := u7.row (f0) (fun (e : (w6.heap.size + 1 + 1) = rb ∨ (w6.heap.size + 1 + 1) = ob) => by omega)
    clear a
    have a := a'
    clear a'
    clear b
    have b := b'
    clear b'
    clear c
    have c := c'
    clear c'
    clear d
    have d := d'
    clear d'
    clear r0
    have r := r'
    clear r'
    clear f0
    have f := f'
    clear f'
    obtain ⟨d0, d1, d2, d3, d4, d5, d6⟩ := ws7 (f.alloc (.cells #[.int .u32 0, .int .u16 7] 26))
    go_wp2_with fail
    clear d0 d1 d2 d3 d4 d5 d6
    refine (call_f _ x rb ob k1 k2 k3 k4 ((h7).alloc (.cells #[.int .u32 0, .int .u16 7] 26))).mono ?_
    rintro e w8 ⟨rfl, h8, u8⟩
    have s8 : w7.heap.size + 1 ≤ w8.heap.size := by have := u8.size; simpa using this
    have a' := u8.row ((a).alloc (.cells #[.int .u32 0, .int .u16 7] 26)) (fun h => h.elim)
    have b' := u8.row ((b).alloc (.cells #[.int .u32 0, .int .u16 7] 26)) (fun h => h.elim)
    have c' := u8.row ((c).alloc (.cells #[.int .u32 0, .int .u16 7] 26)) (fun h => h.elim)
    have d' := u8.row ((d).alloc (.cells #[.int .u32 0, .int .u16 7] 26)) (fun h => h.elim)
    have r' := u8.row ((r).alloc (.cells #[.int .u32 0, .int .u16 7] 26)) (fun h => h.elim)
    have i0 := row_ep (w7) 0 7
    have i' := u8.row (i0) (fun h => h.elim)
    clear a
    have a := a'
    clear a'
    clear b
    have b := b'
    clear b'
    clear c
    have c := c'
    clear c'
    clear d
    have d := d'
    clear d'
    clear r
    have r := r'
    clear r'
    clear i0
    have i := i'
    clear i'
    obtain ⟨a1, a2⟩ := ep2 (a.alloc (.cells #[.int .u32 0, .int .u16 0] 26))
    obtain ⟨b1, b2⟩ := ep2 (b.alloc (.cells #[.int .u32 0, .int .u16 0] 26))
    obtain ⟨c1, c2⟩ := ep2 (c.alloc (.cells #[.int .u32 0, .int .u16 0] 26))
    obtain ⟨d1, d2⟩ := ep2 (d.alloc (.cells #[.int .u32 0, .int .u16 0] 26))
    obtain ⟨i1, i2⟩ := ep2 (i.alloc (.cells #[.int .u32 0, .int .u16 0] 26))
    have r6 := (r.alloc (.cells #[.int .u32 0, .int .u16 0] 26)).cell (i := 6) (by omega)
    simp only [rrF] at r6
    have h9 := h8.alloc (.cells #[.int .u32 0, .int .u16 0] 26)
    go_wp2_with (go_at_call 28; refine (call_n _ x rb ob k1 k2 k3 k4 h9).mono ?_; rintro e w' ⟨rfl, rfl⟩)
    have v1 := (u1.alloc _).trans' u2 (fun i hi (e : i = rb ∨ i = ob) => by omega)
    have v2 := ((((v1.alloc _).alloc _).alloc _).drew).trans' u3 (fun i hi (e : i = rb ∨ i = ob) => by omega)
    have v3 := (v2.alloc _).trans' u4 (fun i hi (e : i = rb ∨ i = ob) => by omega)
    have v4 := (v3.alloc _).trans' u5 (fun i hi (e : i = k1) => by omega)
    have v5 := (v4.alloc _).trans' u6 (fun i hi e => e.elim)
    have v6 := (((v5.alloc _).alloc _).alloc _).trans' u7 (fun i hi (e : i = rb ∨ i = ob) => by omega)
    have v7 := (v6.alloc _).trans' u8 (fun i hi e => e.elim)
    go_ret
    exact ⟨rfl, v7.alloc _⟩
  · go_wp2_with fail
    clear a2 d0 d1 d2 d3 d4 d5 d6 e0 e1 e2 e3 e4 e5 e6 f0 f1 f2 f3 f4 f5 f6 g0 g1 g2 g3 g4 g5 g6 l0 l1 l2 l3 l4 l5 l6
    refine (call_b _ x rb ob k1 (((((h2).alloc (.cells #[.int .u32 9, .int .u16 1006] 26)).alloc (.cells #[.int .u8 17, .int .u32 3, .int .u16 1500, .int .u32 9, .int .u16 1000, .int .u16 2000, .int .u16 5] 28)).alloc (.cells #[.int .u8 17, .int .u32 2, .int .u16 1006, .int .u32 9, .int .u16 1000, .int .u16 2000, .int .u16 5] 28)).drew)).mono ?_
    rintro e w3 ⟨rfl, k2, hk2, h3, u3⟩
    have s3 : w2.heap.size + 3 ≤ w3.heap.size := by have := u3.size; simpa using this
    have t2' := u3.row (rowIs_drew ((((t2).alloc (.cells #[.int .u32 9, .int .u16 1006] 26)).alloc (.cells #[.int .u8 17, .int .u32 3, .int .u16 1500, .int .u32 9, .int .u16 1000, .int .u16 2000, .int .u16 5] 28)).alloc (.cells #[.int .u8 17, .int .u32 2, .int .u16 1006, .int .u32 9, .int .u16 1000, .int .u16 2000, .int .u16 5] 28))) (fun (e : w1.heap.size = rb ∨ w1.heap.size = ob) => by omega)
    have a0 := row_ep (w2) 9 1006
    have a' := u3.row (rowIs_drew (((a0).alloc (.cells #[.int .u8 17, .int .u32 3, .int .u16 1500, .int .u32 9, .int .u16 1000, .int .u16 2000, .int .u16 5] 28)).alloc (.cells #[.int .u8 17, .int .u32 2, .int .u16 1006, .int .u32 9, .int .u16 1000, .int .u16 2000, .int .u16 5] 28))) (fun (e : w2.heap.size = rb ∨ w2.heap.size = ob) => by omega)
    have u0 := row_ws ((w2).alloc (.cells #[.int .u32 9, .int .u16 1006] 26)) 17 3 1500 9 1000 2000 5
    simp only [World.size_alloc] at u0
    have u' := u3.row (rowIs_drew ((u0).alloc (.cells #[.int .u8 17, .int .u32 2, .int .u16 1006, .int .u32 9, .int .u16 1000, .int .u16 2000, .int .u16 5] 28))) (fun (e : (w2.heap.size + 1) = rb ∨ (w2.heap.size + 1) = ob) => by omega)
    clear t2
    have t2 := t2'
    clear t2'
    clear a0
    have a := a'
    clear a'
    clear u0
    have u := u'
    clear u'
    obtain ⟨d0, d1, d2, d3, d4, d5, d6⟩ := ws7 (u.alloc (.cells #[.int .u32 9, .int .u16 1008] 26))
    go_wp2_with fail
    clear d0 d1 d2 d3 d4 d5 d6
    refine (call_c _ x rb ob k1 k2 ((h3).alloc (.cells #[.int .u32 9, .int .u16 1008] 26))).mono ?_
    rintro e w4 ⟨rfl, k3, hk3, h4, u4⟩
    have s4 : w3.heap.size + 1 ≤ w4.heap.size := by have := u4.size; simpa using this
    have t2' := u4.row ((t2).alloc (.cells #[.int .u32 9, .int .u16 1008] 26)) (fun (e : w1.heap.size = rb ∨ w1.heap.size = ob) => by omega)
    have a' := u4.row ((a).alloc (.cells #[.int .u32 9, .int .u16 1008] 26)) (fun (e : w2.heap.size = rb ∨ w2.heap.size = ob) => by omega)
    have b0 := row_ep (w3) 9 1008
    have b' := u4.row (b0) (fun (e : w3.heap.size = rb ∨ w3.heap.size = ob) => by omega)
    clear t2
    have t2 := t2'
    clear t2'
    clear a
    have a := a'
    clear a'
    clear b0
    have b := b'
    clear b'
    obtain ⟨d0, d1, d2, d3, d4, d5, d6⟩ := ws7 (t2.alloc (.cells #[.int .u32 9, .int .u16 1500] 26))
    go_wp2_with fail
    clear d0 d1 d2 d3 d4 d5 d6
    refine (call_d _ x rb ob k1 k2 k3 ((h4).alloc (.cells #[.int .u32 9, .int .u16 1500] 26))).mono ?_
    rintro e w5 ⟨rfl, h5, u5⟩
    have s5 : w4.heap.size + 1 ≤ w5.heap.size := by have := u5.size; simpa using this
    have t2' := u5.row ((t2).alloc (.cells #[.int .u32 9, .int .u16 1500] 26)) (fun (e : w1.heap.size = k1) => by omega)
    have a' := u5.row ((a).alloc (.cells #[.int .u32 9, .int .u16 1500] 26)) (fun (e : w2.heap.size = k1) => by omega)
    have b' := u5.row ((b).alloc (.cells #[.int .u32 9, .int .u16 1500] 26)) (fun (e : w3.heap.size = k1) => by omega)
    have c0 := row_ep (w4) 9 1500
    have c' := u5.row (c0) (fun (e : w4.heap.size = k1) => by omega)
    clear t2
    have t2 := t2'
    clear t2'
    clear a
    have a := a'
    clear a'
    clear b
    have b := b'
    clear b'
    clear c0
    have c := c'
    clear c'
    obtain ⟨d0, d1, d2, d3, d4, d5, d6⟩ := ws7 (t2.alloc (.cells #[.int .u32 9, .int .u16 1006] 26))
    go_wp2_with fail
    clear d0 d1 d2 d3 d4 d5 d6
    refine (call_o _ x rb ob k1 k2 k3 ((h5).alloc (.cells #[.int .u32 9, .int .u16 1006] 26))).mono ?_
    rintro e w6 ⟨rfl, u6⟩
    have s6 : w5.heap.size + 1 ≤ w6.heap.size := by have := u6.size; simpa using this
    have a' := u6.row ((a).alloc (.cells #[.int .u32 9, .int .u16 1006] 26)) (fun h => h.elim)
    have b' := u6.row ((b).alloc (.cells #[.int .u32 9, .int .u16 1006] 26)) (fun h => h.elim)
    have c' := u6.row ((c).alloc (.cells #[.int .u32 9, .int .u16 1006] 26)) (fun h => h.elim)
    have d0 := row_ep (w5) 9 1006
    have d' := u6.row (d0) (fun h => h.elim)
    clear a
    have a := a'
    clear a'
    clear b
    have b := b'
    clear b'
    clear c
    have c := c'
    clear c'
    clear d0
    have d := d'
    clear d'
    have h6 := (h5.alloc (.cells #[.int .u32 9, .int .u16 1006] 26)).upto u6
    go_wp2_with fail
    refine (call_e _ x rb ob k1 k2 k3 ((((h6).alloc (.cells #[.int .u8 17, .int .u32 9, .int .u16 1006, .int .u32 1, .int .u16 4000, .int .i64 0, .int .i64 2] 42)).alloc (.cells #[.int .u8 0, .int .u32 0, .int .u16 1, .int .u32 0, .int .u16 7, .int .u16 7, .int .u16 0] 28)).alloc (.cells #[.int .u8 0, .int .u32 0, .int .u16 2, .int .u32 0, .int .u16 7, .int .u16 7, .int .u16 0] 28))).mono ?_
    rintro e w7 ⟨rfl, k4, hk4, h7, u7⟩
    have s7 : w6.heap.size + 3 ≤ w7.heap.size := by have := u7.size; simpa using this
    have a' := u7.row ((((a).alloc (.cells #[.int .u8 17, .int .u32 9, .int .u16 1006, .int .u32 1, .int .u16 4000, .int .i64 0, .int .i64 2] 42)).alloc (.cells #[.int .u8 0, .int .u32 0, .int .u16 1, .int .u32 0, .int .u16 7, .int .u16 7, .int .u16 0] 28)).alloc (.cells #[.int .u8 0, .int .u32 0, .int .u16 2, .int .u32 0, .int .u16 7, .int .u16 7, .int .u16 0] 28)) (fun (e : w2.heap.size = rb ∨ w2.heap.size = ob) => by omega)
    have b' := u7.row ((((b).alloc (.cells #[.int .u8 17, .int .u32 9, .int .u16 1006, .int .u32 1, .int .u16 4000, .int .i64 0, .int .i64 2] 42)).alloc (.cells #[.int .u8 0, .int .u32 0, .int .u16 1, .int .u32 0, .int .u16 7, .int .u16 7, .int .u16 0] 28)).alloc (.cells #[.int .u8 0, .int .u32 0, .int .u16 2, .int .u32 0, .int .u16 7, .int .u16 7, .int .u16 0] 28)) (fun (e : w3.heap.size = rb ∨ w3.heap.size = ob) => by omega)
    have c' := u7.row ((((c).alloc (.cells #[.int .u8 17, .int .u32 9, .int .u16 1006, .int .u32 1, .int .u16 4000, .int .i64 0, .int .i64 2] 42)).alloc (.cells #[.int .u8 0, .int .u32 0, .int .u16 1, .int .u32 0, .int .u16 7, .int .u16 7, .int .u16 0] 28)).alloc (.cells #[.int .u8 0, .int .u32 0, .int .u16 2, .int .u32 0, .int .u16 7, .int .u16 7, .int .u16 0] 28)) (fun (e : w4.heap.size = rb ∨ w4.heap.size = ob) => by omega)
    have d' := u7.row ((((d).alloc (.cells #[.int .u8 17, .int .u32 9, .int .u16 1006, .int .u32 1, .int .u16 4000, .int .i64 0, .int .i64 2] 42)).alloc (.cells #[.int .u8 0, .int .u32 0, .int .u16 1, .int .u32 0, .int .u16 7, .int .u16 7, .int .u16 0] 28)).alloc (.cells #[.int .u8 0, .int .u32 0, .int .u16 2, .int .u32 0, .int .u16 7, .int .u16 7, .int .u16 0] 28)) (fun (e : w5.heap.size = rb ∨ w5.heap.size = ob) => by omega)
    have r0 := row_rr (w6) 17 9 1006 1 4000 0 2
    have r' := u7.row (((r0).alloc (.cells #[.int .u8 0, .int .u32 0, .int .u16 1, .int .u32 0, .int .u16 7, .int .u16 7, .int .u16 0] 28)).alloc (.cells #[.int .u8 0, .int .u32 0, .int .u16 2, .int .u32 0, .int .u16 7, .int .u16 7, .int .u16 0] 28)) (fun (e : w6.heap.size = rb ∨ w6.heap.size = ob) => by omega)
    have f0 := row_ws (((w6).alloc (.cells #[.int .u8 17, .int .u32 9, .int .u16 1006, .int .u32 1, .int .u16 4000, .int .i64 0, .int .i64 2] 42)).alloc (.cells #[.int .u8 0, .int .u32 0, .int .u16 1, .int .u32 0, .int .u16 7, .int .u16 7, .int .u16 0] 28)) 0 0 2 0 7 7 0
    simp only [World.size_alloc] at f0
    have f' := u7.row (f0) (fun (e : (w6.heap.size + 1 + 1) = rb ∨ (w6.heap.size + 1 + 1) = ob) => by omega)
    clear a
    have a := a'
    clear a'
    clear b
    have b := b'
    clear b'
    clear c
    have c := c'
    clear c'
    clear d
    have d := d'
    clear d'
    clear r0
    have r := r'
    clear r'
    clear f0
    have f := f'
    clear f'
    obtain ⟨d0, d1, d2, d3, d4, d5, d6⟩ := ws7 (f.alloc (.cells #[.int .u32 0, .int .u16 7] 26))
    go_wp2_with fail
    clear d0 d1 d2 d3 d4 d5 d6
    refine (call_f _ x rb ob k1 k2 k3 k4 ((h7).alloc (.cells #[.int .u32 0, .int .u16 7] 26))).mono ?_
    rintro e w8 ⟨rfl, h8, u8⟩
    have s8 : w7.heap.size + 1 ≤ w8.heap.size := by have := u8.size; simpa using this
    have a' := u8.row ((a).alloc (.cells #[.int .u32 0, .int .u16 7] 26)) (fun h => h.elim)
    have b' := u8.row ((b).alloc (.cells #[.int .u32 0, .int .u16 7] 26)) (fun h => h.elim)
    have c' := u8.row ((c).alloc (.cells #[.int .u32 0, .int .u16 7] 26)) (fun h => h.elim)
    have d' := u8.row ((d).alloc (.cells #[.int .u32 0, .int .u16 7] 26)) (fun h => h.elim)
    have r' := u8.row ((r).alloc (.cells #[.int .u32 0, .int .u16 7] 26)) (fun h => h.elim)
    have i0 := row_ep (w7) 0 7
    have i' := u8.row (i0) (fun h => h.elim)
    clear a
    have a := a'
    clear a'
    clear b
    have b := b'
    clear b'
    clear c
    have c := c'
    clear c'
    clear d
    have d := d'
    clear d'
    clear r
    have r := r'
    clear r'
    clear i0
    have i := i'
    clear i'
    obtain ⟨a1, a2⟩ := ep2 (a.alloc (.cells #[.int .u32 0, .int .u16 0] 26))
    obtain ⟨b1, b2⟩ := ep2 (b.alloc (.cells #[.int .u32 0, .int .u16 0] 26))
    obtain ⟨c1, c2⟩ := ep2 (c.alloc (.cells #[.int .u32 0, .int .u16 0] 26))
    obtain ⟨d1, d2⟩ := ep2 (d.alloc (.cells #[.int .u32 0, .int .u16 0] 26))
    obtain ⟨i1, i2⟩ := ep2 (i.alloc (.cells #[.int .u32 0, .int .u16 0] 26))
    have r6 := (r.alloc (.cells #[.int .u32 0, .int .u16 0] 26)).cell (i := 6) (by omega)
    simp only [rrF] at r6
    have h9 := h8.alloc (.cells #[.int .u32 0, .int .u16 0] 26)
    go_wp2_with (go_at_call 28; refine (call_n _ x rb ob k1 k2 k3 k4 h9).mono ?_; rintro e w' ⟨rfl, rfl⟩)
    have v1 := (u1.alloc _).trans' u2 (fun i hi (e : i = rb ∨ i = ob) => by omega)
    have v2 := ((((v1.alloc _).alloc _).alloc _).drew).trans' u3 (fun i hi (e : i = rb ∨ i = ob) => by omega)
    have v3 := (v2.alloc _).trans' u4 (fun i hi (e : i = rb ∨ i = ob) => by omega)
    have v4 := (v3.alloc _).trans' u5 (fun i hi (e : i = k1) => by omega)
    have v5 := (v4.alloc _).trans' u6 (fun i hi e => e.elim)
    have v6 := (((v5.alloc _).alloc _).alloc _).trans' u7 (fun i hi (e : i = rb ∨ i = ob) => by omega)
    have v7 := (v6.alloc _).trans' u8 (fun i hi e => e.elim)
    go_ret
    exact ⟨rfl, v7.alloc _⟩
end Go.Proofs.Ytfiblchdfacdiaa
