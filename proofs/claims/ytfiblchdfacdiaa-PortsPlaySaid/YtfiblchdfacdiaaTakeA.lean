/- Ports' Take, where the inner endpoint has no row: the range over the ports. -/
import Derived.Test.YtfiblchdfacdiaaWalkC
import Derived.Test.YtfiblchdfacdiaaQuiet
namespace Go.Proofs.Ytfiblchdfacdiaa
open Go Go.RowKit Go.Deep Go.Maps
attribute [local go_sem] Oper.semAt_some

theorem PsAt.own {w w' : World} {x rb ob : Nat} {T : List (Rw × Nat)} {N : Nat} {row : Option Nat} (h : PsAt w x rb ob T) (hg : w.grownBy w' row) (hr : ∀ r, row = some r → N ≤ r ∧ ∃ o : Obj, w.heap[r]? = some o ∧ o.isCells = false) (hrb : rb < N) (hob : ob < N) : PsAt w' x rb ob T := by
  refine h.gen (Upto.of_grown hg) (fun k hk hs => ?_)
  obtain ⟨hN, o, ho, hc⟩ := hr k hk
  rcases hs with rfl | rfl | rfl | ⟨r, hr, rfl⟩
  · obtain ⟨A, hA, _⟩ := h.row
    rw [hA] at ho; cases ho; cases hc
  · omega
  · omega
  · obtain ⟨A, hA, _⟩ := h.blk r hr
    rw [hA] at ho; cases ho; cases hc
theorem row_own {w w' : World} {b n : Nat} {t : TypeId} {f : Nat → Value} {N : Nat} {row : Option Nat} (h : w.rowIs b t n f) (hg : w.grownBy w' row) (hr : ∀ r, row = some r → N ≤ r ∧ ∃ o : Obj, w.heap[r]? = some o ∧ o.isCells = false) : w'.rowIs b t n f := by
  refine (Upto.of_grown hg).row h (fun hk => ?_)
  obtain ⟨hN, o, ho, hc⟩ := hr b hk
  obtain ⟨A, hA, _⟩ := h
  rw [hA] at ho; cases ho; cases hc
theorem TkF.own {w w' : World} {x B1 B2 B3 B4 : Nat} {W : Ws} {N : Nat} {row : Option Nat} (h : TkF w x B1 B2 B3 B4 W) (hg : w.grownBy w' row) (hr : ∀ r, row = some r → N ≤ r ∧ ∃ o : Obj, w.heap[r]? = some o ∧ o.isCells = false) : TkF w' x B1 B2 B3 B4 W :=
  ⟨row_own h.b hg hr, row_own h.wr hg hr, row_own h.r hg hr, row_own h.e hg hr⟩
theorem upto_own {S : Nat → Prop} {w0 w w' : World} {N : Nat} {row : Option Nat} (h : Upto S w0 w) (hg : w.grownBy w' row) (hr : ∀ r, row = some r → N ≤ r ∧ ∃ o : Obj, w.heap[r]? = some o ∧ o.isCells = false) (hN : w0.heap.size ≤ N) : Upto S w0 w' :=
  h.grown hg (fun k hk hlt => by have := (hr k hk).1; omega)

/-- The port that Take chooses. -/
def pick (T : List (Rw × Nat)) (W : Ws) : Option Nat := W.tried.find? fun q => (fO T W.p W.ip q).isNone

/-- The first range over a function in a piece of code. -/
def findRange : Code → Option Code
  | .rangeFunc g p a b => some (.rangeFunc g p a b)
  | .block _ c => findRange c
  | .seq a b => match findRange a with
    | some c => some c
    | none => findRange b
  | .loop c => findRange c
  | .scope c => findRange c
  | .cond _ a b => match findRange a with
    | some c => some c
    | none => findRange b
  | _ => none
def rangeBody : Code → Code
  | .rangeFunc _ _ _ b => b
  | c => c
noncomputable def takeRange : Code := (Try.f14.body.bind findRange).getD .skip
noncomputable def takeBody : Code := rangeBody takeRange

/-- Between two rounds: all ports that have come are others'. -/
structure TkJ (w0 : World) (x rb ob B M : Nat) (T : List (Rw × Nat)) (W : Ws) (pre : List Nat) (w : World) : Prop where
  ps : PsAt w x rb ob T
  tk : TkF w x B (B + 1) (B + 1 + 1) (B + 1 + 1 + 1) W
  up : Upto NoS w0 w
  sz : M ≤ w.heap.size
  no : ∀ y ∈ pre, (fO T W.p W.ip y).isNone = false
/-- A port was taken. -/
structure TkX (w0 : World) (x rb ob B : Nat) (T : List (Rw × Nat)) (W : Ws) (pre : List Nat) (w : World) : Prop where
  ex : ∃ q k pre0, pre = pre0 ++ [q] ∧ fO T W.p W.ip q = none ∧ (∀ y ∈ pre0, (fO T W.p W.ip y).isNone = false) ∧ PsAt w x rb ob (T ++ [(newR W.p W.ip q W.ia W.ib, k)]) ∧ w0.heap.size ≤ k ∧
    w.cell? ⟨B + 1 + 1, 0, none⟩ = some (.int .u32 (W.ip : Nat)) ∧ w.cell? ⟨B + 1 + 1, 1, none⟩ = some (.int .u16 (q : Nat)) ∧ w.cell? ⟨B + 1 + 1 + 1, 0, none⟩ = some (.int .i64 0)
  up : Upto (fun i => i = rb ∨ i = ob) w0 w

theorem tkJ_own {w0 : World} {x rb ob B M N : Nat} {T : List (Rw × Nat)} {W : Ws} (hrb : rb < N) (hob : ob < N) (hN : w0.heap.size ≤ N) : OwnFrom N (TkJ w0 x rb ob B M T W) := by
  rintro s A A' row ⟨s1, s2, s3, s4, s5⟩ hg hr
  exact ⟨s1.own hg hr hrb hob, s2.own hg hr, upto_own s3 hg hr hN, Nat.le_trans s4 hg.size, s5⟩
theorem cell_own {w w' : World} {N : Nat} {row : Option Nat} (hg : w.grownBy w' row) (hr : ∀ r, row = some r → N ≤ r ∧ ∃ o : Obj, w.heap[r]? = some o ∧ o.isCells = false) {p : Addr} {v : Value} (hv : w.cell? p = some v) : w'.cell? p = some v := by
  refine (Upto.of_grown hg).keep hv (fun hk => ?_)
  obtain ⟨hN, o, ho, hcs⟩ := hr _ hk
  unfold World.cell? at hv
  rw [ho] at hv
  cases o with
  | cells c t f => cases hcs
  | _ => simp at hv
theorem tkX_own {w0 : World} {x rb ob B N : Nat} {T : List (Rw × Nat)} {W : Ws} (hrb : rb < N) (hob : ob < N) (hN : w0.heap.size ≤ N) : OwnFrom N (TkX w0 x rb ob B T W) := by
  rintro s A A' row ⟨⟨q, k, pre0, s1, s2, s3, s4, s5, s7, s8, s9⟩, s6⟩ hg hr
  exact ⟨⟨q, k, pre0, s1, s2, s3, s4.own hg hr hrb hob, s5, cell_own hg hr s7, cell_own hg hr s8, cell_own hg hr s9⟩, upto_own s6 hg hr hN⟩

theorem keeps_upto {S : Nat → Prop} {N : Nat} {w w' : World} (hu : Upto S w w') (hS : ∀ k, S k → k < N) : KeepsFrom N w w' :=
  ⟨hu.size, fun k o hB hk _ => (hu.block k (Array.getElem?_eq_some_iff.1 hk).1 (fun hs => by have := hS k hs; omega)).trans hk⟩
set_option maxRecDepth 100000 in
set_option maxHeartbeats 1000000 in
theorem take_round (w0 : World) (x rb ob B C M N : Nat) (T : List (Rw × Nat)) (W : Ws) (hWk : W.Ok) (hT : T.length < 1000000) (hI : fI T W.p W.ia W.ib = none) (hB : w0.heap.size ≤ B) (hBM : B + 1 + 1 + 1 < M) (hBN : B + 1 + 1 + 1 < N) (h0 : PsAt w0 x rb ob T)
    (l : Nat) (pre : List Nat) (q : Nat) (W' : World) (hq : q < 65536) (hJ : TkJ w0 x rb ob B M T W pre W') :
    takeBody.wpIn (Fence.wide.inRound l) 2 Try.prog (roundPost N (fun pre W' => TkJ w0 x rb ob B M T W pre W') (fun pre W' => TkX w0 x rb ob B T W pre W') (pre ++ [q]) W') { tmps := #[Value.pointer (some ⟨x, 0, none⟩), wv W, Value.pointer (some ⟨B, 0, none⟩), Value.pointer (some ⟨B + 1, 0, none⟩), Value.pointer (some ⟨B + 1 + 1, 0, none⟩), Value.pointer (some ⟨B + 1 + 1 + 1, 0, none⟩),  Value.pointer (some ⟨C, 0, none⟩), Value.bool false, .int .u16 (q : Nat), undef, Value.pointer (some ⟨x, 0, none⟩), Value.bool false, undef, wv W, Value.bool true, Value.bool false, undef, Value.tuple #[ev 0 0, Value.bool false],  Value.pointer (some ⟨x, 0, none⟩), Value.pointer (some ⟨x, 0, none⟩), Value.pointer (some ⟨x, 1, none⟩), Value.map (some ob), Value.pointer (some ⟨B + 1, 0, none⟩), Value.int .u8 (W.p : Nat), Value.pointer (some ⟨B + 1, 1, none⟩),  ev W.ia W.ib, kv W.p W.ia W.ib, Value.tuple #[ev 0 0, Value.bool false], ev 0 0, Value.bool false, Value.bool false, undef, undef, undef, undef, undef, undef, undef, undef, undef, undef, undef, undef, undef, undef, undef, undef, undef, undef, undef, undef, undef, undef, undef, undef, undef, undef, undef, undef, undef, undef, undef, undef, undef, undef, undef, undef, wv W, Value.func (Fn.func 32) #[wv W] #[], .int .u16 (q : Nat), undef, undef, undef, undef, undef, undef, undef, undef, undef, undef, undef, undef, undef, undef, undef, undef, undef, undef, undef, undef, undef, undef, undef], defers := [] } W' := by
  obtain ⟨hP, hK, hU, hsz, hno⟩ := hJ
  have hrb := h0.rows.lt
  have hob := h0.of_.lt
  have hx0 := h0.lt
  have hbk := fun r hr => (h0.blk r hr).lt
  clear h0
  obtain ⟨g1, g2, g3, g4, g5, g6, g7⟩ := hK.facts
  obtain ⟨d0, d1, d2, d3, d4, d5, d6⟩ := ws_cells hK.wr
  have h7 := hP.alloc (.cells #[.int .u32 (W.ip : Nat), .int .u16 (q : Nat)] 26)
  have k7 := hK.no ((Upto.refl NoS W').alloc (.cells #[.int .u32 (W.ip : Nat), .int .u16 (q : Nat)] 26))
  have c7 := h7.c0
  obtain ⟨j1, j2, j3, j4, j5, j6, j7⟩ := k7.facts
  obtain ⟨i0, i1, i2, i3, i4, i5, i6⟩ := ws_cells k7.wr
  conv => arg 4; whnf
  cases hf : fO T W.p W.ip q with
  | some r =>
    have l1 := fun n => (h7.drewN n).lookO hWk.p hWk.ip hq hf
    gi_wp2
    refine quiet_round (by kernel_rfl) (by kernel_rfl) (by kernel_rfl) ?_
    repeat (gi_big_quiet_step (fail))
    refine wpQuietIn_nil ?_
    intro _ hw'
    obtain ⟨nq, hw''⟩ := hw'
    subst hw''
    gi_wp2
    have hu8 := ((Upto.refl NoS W').alloc (.cells #[.int .u32 (W.ip : Nat), .int .u16 (q : Nat)] 26)).drewN nq
    exact ⟨keeps_upto hu8 (fun _ h => h.elim), CellsStay.of_upto hu8 (fun _ _ h => h.elim), ⟨hP.upto hu8, hK.no hu8, hU.trans hu8, Nat.le_trans hsz hu8.size, fun y hy => by
      rcases List.mem_append.1 hy with hy | hy
      · exact hno y hy
      · simp at hy; subst hy; rw [hf]; rfl⟩⟩
  | none =>
    have l1 := fun n => (h7.drewN n).lookO_no hWk.p hWk.ip hq hf
    have s7 : (W'.alloc (.cells #[.int .u32 (W.ip : Nat), .int .u16 (q : Nat)] 26)).heap.size = W'.heap.size + 1 := by simp
    have y0 := new_1 W' #[.int .u32 (W.ip : Nat), .int .u16 (q : Nat)] 26 0 _ rfl
    have y1 := new_1 W' #[.int .u32 (W.ip : Nat), .int .u16 (q : Nat)] 26 1 _ rfl
    have hUs := hU.size
    gi_wp2
    refine quiet_round (by kernel_rfl) (by kernel_rfl) (by kernel_rfl) ?_
    repeat (gi_big_quiet_step (fail))
    refine wpQuietIn_nil ?_
    intro _ hw'
    obtain ⟨nq, hw''⟩ := hw'
    subst hw''
    have hu8 := ((Upto.refl NoS W').alloc (.cells #[.int .u32 (W.ip : Nat), .int .u16 (q : Nat)] 26)).drewN nq
    have hs8 := hu8.size
    have hbB : ∀ k, (k = rb ∨ k = ob) → k ≠ B ∧ k ≠ B + 1 ∧ k ≠ B + 1 + 1 ∧ k ≠ B + 1 + 1 + 1 := fun k hk => by omega
    gi_wp2
    refine ⟨trivial, ?_⟩
    refine (CallsIn.inRound l (callsIn_wide.2 (lay_any _ _ _ _ _ _ _ _ _ _ (h7.drewN nq) hWk.p hWk.ia hWk.ib hWk.ip hq hf hI hT))).mono ?_
    rintro e w9 ⟨rfl, k9, hk9, h9, hu9⟩
    have k10 := k7.upto ((Upto.refl NoS _).drewN nq |>.mono (T := fun i => i = rb ∨ i = ob) (fun _ _ h => h.elim) |>.trans hu9) hbB
    obtain ⟨m1, m2, m3, m4, m5, m6, m7⟩ := k10.facts
    have z0 := hu9.keep (p := ⟨W'.heap.size, 0, none⟩) y0 (fun (h : W'.heap.size = rb ∨ W'.heap.size = ob) => by omega)
    have z1 := hu9.keep (p := ⟨W'.heap.size, 1, none⟩) y1 (fun (h : W'.heap.size = rb ∨ W'.heap.size = ob) => by omega)
    gi_wp2
    obtain ⟨f1, f2, f3⟩ := k10.fin (by omega) W.ip q 0
    have ua := (hu8.mono (T := fun i => i = rb ∨ i = ob) (fun _ _ h => h.elim)).trans hu9
    have ub : Upto (fun k => k = B + 1 + 1 ∨ k = B + 1 + 1 + 1) w9 _ := (((Upto.refl (fun k => k = B + 1 + 1 ∨ k = B + 1 + 1 + 1) w9).setB (b := B + 1 + 1) (o := 0) (.inl rfl) (.int .u32 (W.ip : Nat))).setB (b := B + 1 + 1) (o := 1) (.inl rfl) (.int .u16 (q : Nat))).setB (b := B + 1 + 1 + 1) (o := 0) (.inr rfl) (.int .i64 0)
    have uc := (ua.mono (T := fun i => i = rb ∨ i = ob ∨ i = B + 1 + 1 ∨ i = B + 1 + 1 + 1) (fun _ _ h => h.elim .inl (fun h => .inr (.inl h)))).trans (ub.mono (fun _ _ h => .inr (.inr h)))
    have hp9 := h9.gen ub (fun k hk hs => by
      rcases hs with rfl | rfl | rfl | ⟨r, hr, rfl⟩
      · omega
      · omega
      · omega
      · rcases List.mem_append.1 hr with hr | hr
        · have := hbk r hr; omega
        · simp at hr; subst hr
          have e9 : W'.heap.size + 1 ≤ k9 := by rw [← s7]; exact hk9
          omega)
    refine ⟨keeps_upto uc (fun k hk => by omega), ⟨⟨q, k9, pre, rfl, hf, hno, hp9, ?_, f1, f2, f3⟩, ?_⟩⟩
    · have e9 : W'.heap.size + 1 ≤ k9 := by rw [← s7]; exact hk9
      omega
    · exact fin_upto ((hU.mono (T := fun i => i = rb ∨ i = ob) (fun _ _ h => h.elim)).trans ua) (by omega) (by omega) _ _ _
end Go.Proofs.Ytfiblchdfacdiaa
