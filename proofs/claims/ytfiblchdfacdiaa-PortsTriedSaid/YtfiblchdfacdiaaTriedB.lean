/- PortsTried's second loop: one round. -/
import Derived.Test.YtfiblchdfacdiaaRefM
import Derived.Test.YtfiblchdfacdiaaTakeE
import Derived.Test.YtfiblchdfacdiaaLet
import Derived.Test.YtfiblchdfacdiaaTakeC
namespace Go.Proofs.Ytfiblchdfacdiaa
open Go Go.RowKit Go.Deep Go.Maps
def findBlock (n : Nat) : Code → Option Code
  | .block m c => if m = n then some (.block m c) else findBlock n c
  | .seq a b => match findBlock n a with
    | some c => some c
    | none => findBlock n b
  | .loop c => findBlock n c
  | .scope c => findBlock n c
  | .cond _ a b => match findBlock n a with
    | some c => some c
    | none => findBlock n b
  | _ => none
/-- It ends by running through, or by a return. -/
def onlyNR (Nx Rx : Act → World → Prop) : Exit → Act → World → Prop
  | .normal, a, w => Nx a w
  | .ret, a, w => Rx a w
  | _, _, _ => False
theorem of_onlyNR {P : Program} {c : Code} {Q : Exit → Act → World → Prop} {a : Act} {w : World} (h : Code.wp P c (onlyNR (Q .normal) (Q .ret)) a w) : Code.wp P c Q a w :=
  Code.wp_mono (fun e a w h => by cases e <;> first | exact h | exact h.elim) h
noncomputable def triedBlock : Code := (Try.f3.body.bind (findBlock 3)).getD .skip
theorem rr7c {w : World} {k : Nat} {p a b c d l h : Int} (hR : w.rowIs k 42 7 (rrF p a b c d l h)) :
    w.cell? ⟨k, 0, none⟩ = some (.int .u8 p) ∧ w.cell? ⟨k, 1, none⟩ = some (.int .u32 a) ∧ w.cell? ⟨k, 2, none⟩ = some (.int .u16 b) ∧ w.cell? ⟨k, 3, none⟩ = some (.int .u32 c) ∧ w.cell? ⟨k, 4, none⟩ = some (.int .u16 d) ∧ w.cell? ⟨k, 5, none⟩ = some (.int .i64 l) ∧ w.cell? ⟨k, 6, none⟩ = some (.int .i64 h) :=
  ⟨hR.cell (i := 0) (by omega), hR.cell (i := 1) (by omega), hR.cell (i := 2) (by omega), hR.cell (i := 3) (by omega), hR.cell (i := 4) (by omega), hR.cell (i := 5) (by omega), hR.cell (i := 6) (by omega)⟩
variable {c0 c1 c3 c4 c6 c7 c8 c13 c14 c15 c16 c17 c18 c19 c20 c21 c22 c23 c24 c25 c26 c27 c28 c29 c30 c31 c32 c33 c34 c35 c36 c37 c38 c39 c40 c41 c42 c43 c44 c45 c46 c47 c48 c49 c50 c51 c52 c53 c54 c55 c56 c57 c58 c59 c60 c61 c62 c63 c64 c65 c66 c67 c68 c69 c70 c71 c72 c73 c74 c75 c76 c77 c78 c79 c80 c81 c82 c83 c84 c85 c86 c87 c88 c89 c90 c91 c92 c93 c94 c95 c96 c97 c98 c99 c100 c101 c102 c103 c104 c105 c106 c107 c108 c109 c110 c111 c112 c113 c114 c115 c116 c117 c118 c119 c120 c121 c122 c123 c124 c125 c126 c127 c128 c129 c130 c131 c132 c133 c134 c135 c136 c137 c138 c139 c140 c141 c142 c143 c144 c145 c146 c147 c148 c149 c150 c151 c152 c153 c154 c155 c156 : Value}

set_option maxRecDepth 100000 in
set_option maxHeartbeats 2000000 in
theorem round_other {wr : World} {x rb ob B A g L lc i y : Nat} {ec : Int} {T : List (Rw × Nat)} {W : Ws} {r : Rw × Nat} {Nx Rx : Act → World → Prop} (hP : PsAt wr x rb ob T) (hK0 : wr.rowIs B 28 7 (wF W)) (hWk : W.Ok) (hf : fO T W.p W.ip y = some r) (hy : y < 65536) (hne : ¬ r.1.ia = W.ia)
    (hyc : wr.cell? ⟨g, i, none⟩ = some (.int .u16 (y : Nat))) (hi : i < L)
    (hK : ∀ (d4 d13 d14 d105 d106 d107 d108 d109 d110 d111 d112 d113 d114 d115 d116 d117 d118 d119 d120 d121 d122 d123 d124 d125 d126 d127 d128 d129 d130 d131 d132 d133 d134 d135 d136 d137 d138 d139 d140 d141 d142 d143 d144 d145 d146 : Value) (w' : World), Upto NoS wr w' → Nx ⟨#[c0, c1, .pointer (some ⟨B, 0, none⟩), c3, d4, .pointer (some ⟨x, 0, none⟩), c6, c7, c8, .pointer (some ⟨A, 0, none⟩), .int .i64 ec, .slice (some ⟨g, 0, none⟩) L lc, .int .i64 (i : Nat), d13, d14, c15, c16, c17, c18, c19, c20, c21, c22, c23, c24, c25, c26, c27, c28, c29, c30, c31, c32, c33, c34, c35, c36, c37, c38, c39, c40, c41, c42, c43, c44, c45, c46, c47, c48, c49, c50, c51, c52, c53, c54, c55, c56, c57, c58, c59, c60, c61, c62, c63, c64, c65, c66, c67, c68, c69, c70, c71, c72, c73, c74, c75, c76, c77, c78, c79, c80, c81, c82, c83, c84, c85, c86, c87, c88, c89, c90, c91, c92, c93, c94, c95, c96, c97, c98, c99, c100, c101, c102, c103, c104, d105, d106, d107, d108, d109, d110, d111, d112, d113, d114, d115, d116, d117, d118, d119, d120, d121, d122, d123, d124, d125, d126, d127, d128, d129, d130, d131, d132, d133, d134, d135, d136, d137, d138, d139, d140, d141, d142, d143, d144, d145, d146, c147, c148, c149, c150, c151, c152, c153, c154, c155, c156], []⟩ w') : Code.wp Try.prog triedBlock (onlyNR Nx Rx) ⟨#[c0, c1, .pointer (some ⟨B, 0, none⟩), c3, c4, .pointer (some ⟨x, 0, none⟩), c6, c7, c8, .pointer (some ⟨A, 0, none⟩), .int .i64 ec, .slice (some ⟨g, 0, none⟩) L lc, .int .i64 (i : Nat), c13, c14, c15, c16, c17, c18, c19, c20, c21, c22, c23, c24, c25, c26, c27, c28, c29, c30, c31, c32, c33, c34, c35, c36, c37, c38, c39, c40, c41, c42, c43, c44, c45, c46, c47, c48, c49, c50, c51, c52, c53, c54, c55, c56, c57, c58, c59, c60, c61, c62, c63, c64, c65, c66, c67, c68, c69, c70, c71, c72, c73, c74, c75, c76, c77, c78, c79, c80, c81, c82, c83, c84, c85, c86, c87, c88, c89, c90, c91, c92, c93, c94, c95, c96, c97, c98, c99, c100, c101, c102, c103, c104, c105, c106, c107, c108, c109, c110, c111, c112, c113, c114, c115, c116, c117, c118, c119, c120, c121, c122, c123, c124, c125, c126, c127, c128, c129, c130, c131, c132, c133, c134, c135, c136, c137, c138, c139, c140, c141, c142, c143, c144, c145, c146, c147, c148, c149, c150, c151, c152, c153, c154, c155, c156], []⟩ wr := by
  obtain ⟨d0, d1, d2, d3, d4, d5, d6⟩ := ws_cells hK0
  have yi0 : (0 : Int) ≤ (i : Int) := by omega
  have yi1 : (i : Int) < (L : Int) := by omega
  have hB := hK0.lt
  have hg := World.block_lt_of_cell? wr _ hyc
  have hg : g < wr.heap.size := hg
  have ne1 : ¬ B = wr.heap.size := by omega
  have ne2 : ¬ g = wr.heap.size := by omega
  have bne : ((r.1.ia : Int) == (W.ia : Int)) = false := by rw [beq_eq_false_iff_ne]; omega
  have HR2 := Lib.hid hf
  have HK := Lib.hid hK
  clear hf hK
  have dd : (wr.drew).cell? ⟨B, 0, none⟩ = some (.int .u8 (W.p : Nat)) ∧ (wr.drew).cell? ⟨B, 3, none⟩ = some (.int .u32 (W.ip : Nat)) ∧ (wr.drew).cell? ⟨g, i, none⟩ = some (.int .u16 (y : Nat)) := ⟨d0, d3, hyc⟩
  have da : ((wr.alloc (.cells #[.int .u8 0, .int .u32 0, .int .u16 0, .int .u32 0, .int .u16 0, .int .i64 0, .int .i64 0] 42)).drew).cell? ⟨B, 0, none⟩ = some (.int .u8 (W.p : Nat)) ∧ ((wr.alloc (.cells #[.int .u8 0, .int .u32 0, .int .u16 0, .int .u32 0, .int .u16 0, .int .i64 0, .int .i64 0] 42)).drew).cell? ⟨B, 3, none⟩ = some (.int .u32 (W.ip : Nat)) ∧ ((wr.alloc (.cells #[.int .u8 0, .int .u32 0, .int .u16 0, .int .u32 0, .int .u16 0, .int .i64 0, .int .i64 0] 42)).drew).cell? ⟨g, i, none⟩ = some (.int .u16 (y : Nat)) := ⟨keep_alloc d0 _, keep_alloc d3 _, keep_alloc hyc _⟩
  conv => arg 2; whnf
  go_wp2_with fail
  go_region_held3 (fun w' => w'.cell? ⟨B, 0, none⟩ = some (.int .u8 (W.p : Nat)) ∧ w'.cell? ⟨B, 3, none⟩ = some (.int .u32 (W.ip : Nat)) ∧ w'.cell? ⟨g, i, none⟩ = some (.int .u16 (y : Nat)))
    (with_reducible first | exact dd | exact da | exact ds | exact ⟨keep_alloc ds.1 _, keep_alloc ds.2.1 _, keep_alloc ds.2.2 _⟩ | exact dt)
    (first
      | (go_at_call 15; ((with_reducible refine (Owner_some _ x rb ob _ W.p W.ip y r hP.drew hWk.p hWk.ip hy HR2.out).mono ?_); rintro e w3 ⟨rfl, hu3⟩; have ds : (w3).cell? ⟨B, 0, none⟩ = some (.int .u8 (W.p : Nat)) ∧ (w3).cell? ⟨B, 3, none⟩ = some (.int .u32 (W.ip : Nat)) ∧ (w3).cell? ⟨g, i, none⟩ = some (.int .u16 (y : Nat)) := ⟨hu3.keep dd.1 id, hu3.keep dd.2.1 id, hu3.keep dd.2.2 id⟩))
      | (go_at_call 15; ((with_reducible refine (Owner_some _ x rb ob _ W.p W.ip y r (hP.alloc _).drew hWk.p hWk.ip hy HR2.out).mono ?_); rintro e w3 ⟨rfl, hu3⟩; have ds : (w3).cell? ⟨B, 0, none⟩ = some (.int .u8 (W.p : Nat)) ∧ (w3).cell? ⟨B, 3, none⟩ = some (.int .u32 (W.ip : Nat)) ∧ (w3).cell? ⟨g, i, none⟩ = some (.int .u16 (y : Nat)) := ⟨hu3.keep da.1 id, hu3.keep da.2.1 id, hu3.keep da.2.2 id⟩; have hNr := hu3.row (rowIs_drew (row_rr wr 0 0 0 0 0 0 0)) (fun h => h.elim); obtain ⟨e0, e1, e2, e3, e4, e5, e6⟩ := rr7c hNr; have f0 := hNr.frozen 0; have f1 := hNr.frozen 1; have f2 := hNr.frozen 2; have f3 := hNr.frozen 3; have f4 := hNr.frozen 4; have f5 := hNr.frozen 5; have f6 := hNr.frozen 6; have u7 : Upto (fun k => k = wr.heap.size) w3 (((((((w3.setCell ⟨wr.heap.size, 0, none⟩ (.int .u8 (r.1.p : Nat))).setCell ⟨wr.heap.size, 1, none⟩ (.int .u32 (r.1.oa : Nat))).setCell ⟨wr.heap.size, 2, none⟩ (.int .u16 (r.1.ob : Nat))).setCell ⟨wr.heap.size, 3, none⟩ (.int .u32 (r.1.ia : Nat))).setCell ⟨wr.heap.size, 4, none⟩ (.int .u16 (r.1.ib : Nat))).setCell ⟨wr.heap.size, 5, none⟩ (.int .i64 (r.1.live : Nat))).setCell ⟨wr.heap.size, 6, none⟩ (.int .i64 (r.1.held : Nat))) := set7_upto (Upto.refl (fun k => k = wr.heap.size) w3) (fun _ => rfl) r.1; have dt : (((((((w3.setCell ⟨wr.heap.size, 0, none⟩ (.int .u8 (r.1.p : Nat))).setCell ⟨wr.heap.size, 1, none⟩ (.int .u32 (r.1.oa : Nat))).setCell ⟨wr.heap.size, 2, none⟩ (.int .u16 (r.1.ob : Nat))).setCell ⟨wr.heap.size, 3, none⟩ (.int .u32 (r.1.ia : Nat))).setCell ⟨wr.heap.size, 4, none⟩ (.int .u16 (r.1.ib : Nat))).setCell ⟨wr.heap.size, 5, none⟩ (.int .i64 (r.1.live : Nat))).setCell ⟨wr.heap.size, 6, none⟩ (.int .i64 (r.1.held : Nat))).cell? ⟨B, 0, none⟩ = some (.int .u8 (W.p : Nat)) ∧ (((((((w3.setCell ⟨wr.heap.size, 0, none⟩ (.int .u8 (r.1.p : Nat))).setCell ⟨wr.heap.size, 1, none⟩ (.int .u32 (r.1.oa : Nat))).setCell ⟨wr.heap.size, 2, none⟩ (.int .u16 (r.1.ob : Nat))).setCell ⟨wr.heap.size, 3, none⟩ (.int .u32 (r.1.ia : Nat))).setCell ⟨wr.heap.size, 4, none⟩ (.int .u16 (r.1.ib : Nat))).setCell ⟨wr.heap.size, 5, none⟩ (.int .i64 (r.1.live : Nat))).setCell ⟨wr.heap.size, 6, none⟩ (.int .i64 (r.1.held : Nat))).cell? ⟨B, 3, none⟩ = some (.int .u32 (W.ip : Nat)) ∧ (((((((w3.setCell ⟨wr.heap.size, 0, none⟩ (.int .u8 (r.1.p : Nat))).setCell ⟨wr.heap.size, 1, none⟩ (.int .u32 (r.1.oa : Nat))).setCell ⟨wr.heap.size, 2, none⟩ (.int .u16 (r.1.ob : Nat))).setCell ⟨wr.heap.size, 3, none⟩ (.int .u32 (r.1.ia : Nat))).setCell ⟨wr.heap.size, 4, none⟩ (.int .u16 (r.1.ib : Nat))).setCell ⟨wr.heap.size, 5, none⟩ (.int .i64 (r.1.live : Nat))).setCell ⟨wr.heap.size, 6, none⟩ (.int .i64 (r.1.held : Nat))).cell? ⟨g, i, none⟩ = some (.int .u16 (y : Nat)) := ⟨u7.keep ds.1 ne1, u7.keep ds.2.1 ne1, u7.keep ds.2.2 ne2⟩)))
  · have hKA := (hu3.row (rowIs_drew hK0) (fun h => h.elim)).alloc (.cells #[.int .u8 (r.1.p : Nat), .int .u32 (r.1.oa : Nat), .int .u16 (r.1.ob : Nat), .int .u32 (r.1.ia : Nat), .int .u16 (r.1.ib : Nat), .int .i64 (r.1.live : Nat), .int .i64 (r.1.held : Nat)] 42)
    obtain ⟨t0, t1, t2, t3, t4, t5, t6⟩ := ws_cells hKA
    obtain ⟨n0, n1, n2, n3, n4, n5, n6⟩ := rw_cells (new_r7 w3 r.1)
    have hu9 := ((Upto.refl NoS wr).drew.trans hu3).alloc (.cells #[.int .u8 (r.1.p : Nat), .int .u32 (r.1.oa : Nat), .int .u16 (r.1.ob : Nat), .int .u32 (r.1.ia : Nat), .int .u16 (r.1.ib : Nat), .int .i64 (r.1.live : Nat), .int .i64 (r.1.held : Nat)] 42)
    go_wp2_with fail
    exact HK.out _ _ _ _ _ _ _ _ _ _ _ _ _ _ _ _ _ _ _ _ _ _ _ _ _ _ _ _ _ _ _ _ _ _ _ _ _ _ _ _ _ _ _ _ _ _ hu9
  · have hKB := u7.row (hu3.row (rowIs_drew (hK0.alloc _)) (fun h => h.elim)) ne1
    have hN7 : (((((((w3.setCell ⟨wr.heap.size, 0, none⟩ (.int .u8 (r.1.p : Nat))).setCell ⟨wr.heap.size, 1, none⟩ (.int .u32 (r.1.oa : Nat))).setCell ⟨wr.heap.size, 2, none⟩ (.int .u16 (r.1.ob : Nat))).setCell ⟨wr.heap.size, 3, none⟩ (.int .u32 (r.1.ia : Nat))).setCell ⟨wr.heap.size, 4, none⟩ (.int .u16 (r.1.ib : Nat))).setCell ⟨wr.heap.size, 5, none⟩ (.int .i64 (r.1.live : Nat))).setCell ⟨wr.heap.size, 6, none⟩ (.int .i64 (r.1.held : Nat))).rowIs wr.heap.size 42 7 (rwF r.1) := set7_row hNr r.1
    have hu9 : Upto NoS wr (((((((w3.setCell ⟨wr.heap.size, 0, none⟩ (.int .u8 (r.1.p : Nat))).setCell ⟨wr.heap.size, 1, none⟩ (.int .u32 (r.1.oa : Nat))).setCell ⟨wr.heap.size, 2, none⟩ (.int .u16 (r.1.ob : Nat))).setCell ⟨wr.heap.size, 3, none⟩ (.int .u32 (r.1.ia : Nat))).setCell ⟨wr.heap.size, 4, none⟩ (.int .u16 (r.1.ib : Nat))).setCell ⟨wr.heap.size, 5, none⟩ (.int .i64 (r.1.live : Nat))).setCell ⟨wr.heap.size, 6, none⟩ (.int .i64 (r.1.held : Nat))) := set7_upto (((Upto.refl NoS wr).alloc _).drew.trans hu3) (fun h => by omega) r.1
    clear e0 e1 e2 e3 e4 e5 e6 f0 f1 f2 f3 f4 f5 f6 u7 dt hNr
    generalize ((((((w3.setCell ⟨wr.heap.size, 0, none⟩ (.int .u8 (r.1.p : Nat))).setCell ⟨wr.heap.size, 1, none⟩ (.int .u32 (r.1.oa : Nat))).setCell ⟨wr.heap.size, 2, none⟩ (.int .u16 (r.1.ob : Nat))).setCell ⟨wr.heap.size, 3, none⟩ (.int .u32 (r.1.ia : Nat))).setCell ⟨wr.heap.size, 4, none⟩ (.int .u16 (r.1.ib : Nat))).setCell ⟨wr.heap.size, 5, none⟩ (.int .i64 (r.1.live : Nat))).setCell ⟨wr.heap.size, 6, none⟩ (.int .i64 (r.1.held : Nat)) = w9 at hKB hN7 hu9 ⊢
    obtain ⟨t0, t1, t2, t3, t4, t5, t6⟩ := ws_cells hKB
    obtain ⟨n0, n1, n2, n3, n4, n5, n6⟩ := rw_cells hN7
    go_wp2_with fail
    exact HK.out _ _ _ _ _ _ _ _ _ _ _ _ _ _ _ _ _ _ _ _ _ _ _ _ _ _ _ _ _ _ _ _ _ _ _ _ _ _ _ _ _ _ _ _ _ _ hu9
set_option maxRecDepth 100000 in
set_option maxHeartbeats 2000000 in
theorem round_own {wr : World} {x rb ob B A g L lc i y : Nat} {T : List (Rw × Nat)} {W : Ws} {k : Nat} {Nx Rx : Act → World → Prop} (hP : PsAt wr x rb ob T) (hK0 : wr.rowIs B 28 7 (wF W)) (hWk : W.Ok) (hf : fO T W.p W.ip y = some (⟨W.p, W.ip, y, W.ia, W.ib, 0, 1⟩, k)) (hy : y < 65536) (hA : wr.rowIs A 26 2 (epF (W.ip : Nat) (y : Nat)))
    (hyc : wr.cell? ⟨g, i, none⟩ = some (.int .u16 (y : Nat))) (hi : i < L)
    (hK : ∀ (a : Act) (w' : World), a.tmps.getD 4 undef = .bool true → a.defers = [] → Upto NoS wr w' → Rx a w') : Code.wp Try.prog triedBlock (onlyNR Nx Rx) ⟨#[c0, c1, .pointer (some ⟨B, 0, none⟩), c3, c4, .pointer (some ⟨x, 0, none⟩), c6, c7, c8, .pointer (some ⟨A, 0, none⟩), .int .i64 0, .slice (some ⟨g, 0, none⟩) L lc, .int .i64 (i : Nat), c13, c14, c15, c16, c17, c18, c19, c20, c21, c22, c23, c24, c25, c26, c27, c28, c29, c30, c31, c32, c33, c34, c35, c36, c37, c38, c39, c40, c41, c42, c43, c44, c45, c46, c47, c48, c49, c50, c51, c52, c53, c54, c55, c56, c57, c58, c59, c60, c61, c62, c63, c64, c65, c66, c67, c68, c69, c70, c71, c72, c73, c74, c75, c76, c77, c78, c79, c80, c81, c82, c83, c84, c85, c86, c87, c88, c89, c90, c91, c92, c93, c94, c95, c96, c97, c98, c99, c100, c101, c102, c103, c104, c105, c106, c107, c108, c109, c110, c111, c112, c113, c114, c115, c116, c117, c118, c119, c120, c121, c122, c123, c124, c125, c126, c127, c128, c129, c130, c131, c132, c133, c134, c135, c136, c137, c138, c139, c140, c141, c142, c143, c144, c145, c146, c147, c148, c149, c150, c151, c152, c153, c154, c155, c156], []⟩ wr := by
  obtain ⟨d0, d1, d2, d3, d4, d5, d6⟩ := ws_cells hK0
  have yi0 : (0 : Int) ≤ (i : Int) := by omega
  have yi1 : (i : Int) < (L : Int) := by omega
  have hB := hK0.lt
  have hg := World.block_lt_of_cell? wr _ hyc
  have hg : g < wr.heap.size := hg
  have ne1 : ¬ B = wr.heap.size := by omega
  have ne2 : ¬ g = wr.heap.size := by omega
  have hAl := hA.lt
  have ne3 : ¬ A = wr.heap.size := by omega
  have HR2 := Lib.hid hf
  have HK := Lib.hid hK
  clear hf hK
  have dd : (wr.drew).cell? ⟨B, 0, none⟩ = some (.int .u8 (W.p : Nat)) ∧ (wr.drew).cell? ⟨B, 3, none⟩ = some (.int .u32 (W.ip : Nat)) ∧ (wr.drew).cell? ⟨g, i, none⟩ = some (.int .u16 (y : Nat)) := ⟨d0, d3, hyc⟩
  have da : ((wr.alloc (.cells #[.int .u8 0, .int .u32 0, .int .u16 0, .int .u32 0, .int .u16 0, .int .i64 0, .int .i64 0] 42)).drew).cell? ⟨B, 0, none⟩ = some (.int .u8 (W.p : Nat)) ∧ ((wr.alloc (.cells #[.int .u8 0, .int .u32 0, .int .u16 0, .int .u32 0, .int .u16 0, .int .i64 0, .int .i64 0] 42)).drew).cell? ⟨B, 3, none⟩ = some (.int .u32 (W.ip : Nat)) ∧ ((wr.alloc (.cells #[.int .u8 0, .int .u32 0, .int .u16 0, .int .u32 0, .int .u16 0, .int .i64 0, .int .i64 0] 42)).drew).cell? ⟨g, i, none⟩ = some (.int .u16 (y : Nat)) := ⟨keep_alloc d0 _, keep_alloc d3 _, keep_alloc hyc _⟩
  conv => arg 2; whnf
  go_wp2_with fail
  go_region_held3 (fun w' => w'.cell? ⟨B, 0, none⟩ = some (.int .u8 (W.p : Nat)) ∧ w'.cell? ⟨B, 3, none⟩ = some (.int .u32 (W.ip : Nat)) ∧ w'.cell? ⟨g, i, none⟩ = some (.int .u16 (y : Nat)))
    (with_reducible first | exact dd | exact da | exact ds | exact ⟨keep_alloc ds.1 _, keep_alloc ds.2.1 _, keep_alloc ds.2.2 _⟩ | exact dt)
    (first
      | (go_at_call 15; ((with_reducible refine (Owner_some _ x rb ob _ W.p W.ip y (⟨W.p, W.ip, y, W.ia, W.ib, 0, 1⟩, k) hP.drew hWk.p hWk.ip hy HR2.out).mono ?_); rintro e w3 ⟨rfl, hu3⟩; have ds : (w3).cell? ⟨B, 0, none⟩ = some (.int .u8 (W.p : Nat)) ∧ (w3).cell? ⟨B, 3, none⟩ = some (.int .u32 (W.ip : Nat)) ∧ (w3).cell? ⟨g, i, none⟩ = some (.int .u16 (y : Nat)) := ⟨hu3.keep dd.1 id, hu3.keep dd.2.1 id, hu3.keep dd.2.2 id⟩))
      | (go_at_call 15; ((with_reducible refine (Owner_some _ x rb ob _ W.p W.ip y (⟨W.p, W.ip, y, W.ia, W.ib, 0, 1⟩, k) (hP.alloc _).drew hWk.p hWk.ip hy HR2.out).mono ?_); rintro e w3 ⟨rfl, hu3⟩; have ds : (w3).cell? ⟨B, 0, none⟩ = some (.int .u8 (W.p : Nat)) ∧ (w3).cell? ⟨B, 3, none⟩ = some (.int .u32 (W.ip : Nat)) ∧ (w3).cell? ⟨g, i, none⟩ = some (.int .u16 (y : Nat)) := ⟨hu3.keep da.1 id, hu3.keep da.2.1 id, hu3.keep da.2.2 id⟩; have hNr := hu3.row (rowIs_drew (row_rr wr 0 0 0 0 0 0 0)) (fun h => h.elim); obtain ⟨e0, e1, e2, e3, e4, e5, e6⟩ := rr7c hNr; have f0 := hNr.frozen 0; have f1 := hNr.frozen 1; have f2 := hNr.frozen 2; have f3 := hNr.frozen 3; have f4 := hNr.frozen 4; have f5 := hNr.frozen 5; have f6 := hNr.frozen 6; have u7 : Upto (fun k => k = wr.heap.size) w3 (((((((w3.setCell ⟨wr.heap.size, 0, none⟩ (.int .u8 (W.p : Nat))).setCell ⟨wr.heap.size, 1, none⟩ (.int .u32 (W.ip : Nat))).setCell ⟨wr.heap.size, 2, none⟩ (.int .u16 (y : Nat))).setCell ⟨wr.heap.size, 3, none⟩ (.int .u32 (W.ia : Nat))).setCell ⟨wr.heap.size, 4, none⟩ (.int .u16 (W.ib : Nat))).setCell ⟨wr.heap.size, 5, none⟩ (.int .i64 0)).setCell ⟨wr.heap.size, 6, none⟩ (.int .i64 1)) := set7_upto (Upto.refl (fun k => k = wr.heap.size) w3) (fun _ => rfl) ⟨W.p, W.ip, y, W.ia, W.ib, 0, 1⟩; have dt : (((((((w3.setCell ⟨wr.heap.size, 0, none⟩ (.int .u8 (W.p : Nat))).setCell ⟨wr.heap.size, 1, none⟩ (.int .u32 (W.ip : Nat))).setCell ⟨wr.heap.size, 2, none⟩ (.int .u16 (y : Nat))).setCell ⟨wr.heap.size, 3, none⟩ (.int .u32 (W.ia : Nat))).setCell ⟨wr.heap.size, 4, none⟩ (.int .u16 (W.ib : Nat))).setCell ⟨wr.heap.size, 5, none⟩ (.int .i64 0)).setCell ⟨wr.heap.size, 6, none⟩ (.int .i64 1)).cell? ⟨B, 0, none⟩ = some (.int .u8 (W.p : Nat)) ∧ (((((((w3.setCell ⟨wr.heap.size, 0, none⟩ (.int .u8 (W.p : Nat))).setCell ⟨wr.heap.size, 1, none⟩ (.int .u32 (W.ip : Nat))).setCell ⟨wr.heap.size, 2, none⟩ (.int .u16 (y : Nat))).setCell ⟨wr.heap.size, 3, none⟩ (.int .u32 (W.ia : Nat))).setCell ⟨wr.heap.size, 4, none⟩ (.int .u16 (W.ib : Nat))).setCell ⟨wr.heap.size, 5, none⟩ (.int .i64 0)).setCell ⟨wr.heap.size, 6, none⟩ (.int .i64 1)).cell? ⟨B, 3, none⟩ = some (.int .u32 (W.ip : Nat)) ∧ (((((((w3.setCell ⟨wr.heap.size, 0, none⟩ (.int .u8 (W.p : Nat))).setCell ⟨wr.heap.size, 1, none⟩ (.int .u32 (W.ip : Nat))).setCell ⟨wr.heap.size, 2, none⟩ (.int .u16 (y : Nat))).setCell ⟨wr.heap.size, 3, none⟩ (.int .u32 (W.ia : Nat))).setCell ⟨wr.heap.size, 4, none⟩ (.int .u16 (W.ib : Nat))).setCell ⟨wr.heap.size, 5, none⟩ (.int .i64 0)).setCell ⟨wr.heap.size, 6, none⟩ (.int .i64 1)).cell? ⟨g, i, none⟩ = some (.int .u16 (y : Nat)) := ⟨u7.keep ds.1 ne1, u7.keep ds.2.1 ne1, u7.keep ds.2.2 ne2⟩)))
  · have hKA := (hu3.row (rowIs_drew hK0) (fun h => h.elim)).alloc (.cells #[.int .u8 (W.p : Nat), .int .u32 (W.ip : Nat), .int .u16 (y : Nat), .int .u32 (W.ia : Nat), .int .u16 (W.ib : Nat), .int .i64 0, .int .i64 1] 42)
    obtain ⟨t0, t1, t2, t3, t4, t5, t6⟩ := ws_cells hKA
    obtain ⟨v0, v1⟩ := ep2 ((hu3.row (rowIs_drew hA) (fun h => h.elim)).alloc (.cells #[.int .u8 (W.p : Nat), .int .u32 (W.ip : Nat), .int .u16 (y : Nat), .int .u32 (W.ia : Nat), .int .u16 (W.ib : Nat), .int .i64 0, .int .i64 1] 42))
    obtain ⟨n0, n1, n2, n3, n4, n5, n6⟩ := rw_cells (new_r7 w3 ⟨W.p, W.ip, y, W.ia, W.ib, 0, 1⟩)
    have hu9 := ((Upto.refl NoS wr).drew.trans hu3).alloc (.cells #[.int .u8 (W.p : Nat), .int .u32 (W.ip : Nat), .int .u16 (y : Nat), .int .u32 (W.ia : Nat), .int .u16 (W.ib : Nat), .int .i64 0, .int .i64 1] 42)
    go_wp2_with (go_at_call 8; refine (let_any _).mono ?_; rintro e wz ⟨rfl, huz⟩)
    exact HK.out _ _ rfl rfl (hu9.trans huz)
  · have hKB := u7.row (hu3.row (rowIs_drew (hK0.alloc _)) (fun h => h.elim)) ne1
    have hAB := u7.row (hu3.row (rowIs_drew (hA.alloc _)) (fun h => h.elim)) ne3
    have hN7 : (((((((w3.setCell ⟨wr.heap.size, 0, none⟩ (.int .u8 (W.p : Nat))).setCell ⟨wr.heap.size, 1, none⟩ (.int .u32 (W.ip : Nat))).setCell ⟨wr.heap.size, 2, none⟩ (.int .u16 (y : Nat))).setCell ⟨wr.heap.size, 3, none⟩ (.int .u32 (W.ia : Nat))).setCell ⟨wr.heap.size, 4, none⟩ (.int .u16 (W.ib : Nat))).setCell ⟨wr.heap.size, 5, none⟩ (.int .i64 0)).setCell ⟨wr.heap.size, 6, none⟩ (.int .i64 1)).rowIs wr.heap.size 42 7 (rwF ⟨W.p, W.ip, y, W.ia, W.ib, 0, 1⟩) := set7_row hNr ⟨W.p, W.ip, y, W.ia, W.ib, 0, 1⟩
    have hu9 : Upto NoS wr (((((((w3.setCell ⟨wr.heap.size, 0, none⟩ (.int .u8 (W.p : Nat))).setCell ⟨wr.heap.size, 1, none⟩ (.int .u32 (W.ip : Nat))).setCell ⟨wr.heap.size, 2, none⟩ (.int .u16 (y : Nat))).setCell ⟨wr.heap.size, 3, none⟩ (.int .u32 (W.ia : Nat))).setCell ⟨wr.heap.size, 4, none⟩ (.int .u16 (W.ib : Nat))).setCell ⟨wr.heap.size, 5, none⟩ (.int .i64 0)).setCell ⟨wr.heap.size, 6, none⟩ (.int .i64 1)) := set7_upto (((Upto.refl NoS wr).alloc _).drew.trans hu3) (fun h => by omega) ⟨W.p, W.ip, y, W.ia, W.ib, 0, 1⟩
    clear e0 e1 e2 e3 e4 e5 e6 f0 f1 f2 f3 f4 f5 f6 u7 dt hNr
    generalize ((((((w3.setCell ⟨wr.heap.size, 0, none⟩ (.int .u8 (W.p : Nat))).setCell ⟨wr.heap.size, 1, none⟩ (.int .u32 (W.ip : Nat))).setCell ⟨wr.heap.size, 2, none⟩ (.int .u16 (y : Nat))).setCell ⟨wr.heap.size, 3, none⟩ (.int .u32 (W.ia : Nat))).setCell ⟨wr.heap.size, 4, none⟩ (.int .u16 (W.ib : Nat))).setCell ⟨wr.heap.size, 5, none⟩ (.int .i64 0)).setCell ⟨wr.heap.size, 6, none⟩ (.int .i64 1) = w9 at hKB hAB hN7 hu9 ⊢
    obtain ⟨t0, t1, t2, t3, t4, t5, t6⟩ := ws_cells hKB
    obtain ⟨v0, v1⟩ := ep2 hAB
    obtain ⟨n0, n1, n2, n3, n4, n5, n6⟩ := rw_cells hN7
    go_wp2_with (go_at_call 8; refine (let_any _).mono ?_; rintro e wz ⟨rfl, huz⟩)
    exact HK.out _ _ rfl rfl (hu9.trans huz)
end Go.Proofs.Ytfiblchdfacdiaa
