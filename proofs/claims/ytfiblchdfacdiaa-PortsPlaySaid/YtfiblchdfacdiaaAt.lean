/- What it is that ports lie at a place in memory. -/
import Derived.Test.YtfiblchdfacdiaaChecked
import Derived.Test.YtfiblchdfacdiaaMaps
namespace Go.Proofs.Ytfiblchdfacdiaa
open Go Go.RowKit Go.Deep Go.Maps

/-- A row: protocol, outer endpoint, inner endpoint, entries, held. -/
structure Rw where
  p : Nat
  oa : Nat
  ob : Nat
  ia : Nat
  ib : Nat
  live : Nat
  held : Nat
deriving DecidableEq, Inhabited

structure Rw.Ok (r : Rw) : Prop where
  p : r.p < 256
  oa : r.oa < 4294967296
  ob : r.ob < 65536
  ia : r.ia < 4294967296
  ib : r.ib < 65536
  live : r.live ≤ 1000000
  held : r.held ≤ 1000000

/-- A key, as a value. -/
abbrev kv (p a b : Nat) : Value := .agg #[.int .u8 (p : Nat), .int .u32 (a : Nat), .int .u16 (b : Nat)]
/-- An endpoint, as a value. -/
abbrev ev (a b : Nat) : Value := .agg #[.int .u32 (a : Nat), .int .u16 (b : Nat)]

theorem laidOut : laidOutB Try.prog = true := by kernel_rfl
theorem row72 : 72 < Try.prog.types.size := of_decide_eq_true (by kernel_rfl)
theorem keyed_of {P : Program} {k : TypeId} {fs : Array Field} (hl : laidOutB P = true) (hr : k < P.types.size) (hk : P.keyTypeAt 3 k = true) (hu : P.underlying k = some (.struct fs)) : Keyed P k :=
  Keyed.of_law (deep_law_laid hl (m := 3) (by omega) hr hk (by rw [hu]))
theorem keyed72 : Keyed Try.prog 72 := keyed_of laidOut row72 (by kernel_rfl) Try.underlying72
theorem cells72 : Try.prog.cellsOf 72 = 3 := by kernel_rfl
theorem cells26 : Try.prog.cellsOf 26 = 2 := by kernel_rfl
theorem cells5 : Try.prog.cellsOf 5 = 1 := by kernel_rfl
theorem cells23 : Try.prog.cellsOf 23 = 1 := by kernel_rfl
theorem cells24 : Try.prog.cellsOf 24 = 1 := by kernel_rfl
theorem keyType72 : Try.prog.keyType 72 = true := by kernel_rfl
theorem lits_of {P : Program} (d : Nat) {k e tp ta tb : TypeId} {f0 f1 g0 g1 : Field} (hk : P.underlying k = some (.struct #[f0, f1])) (he : P.underlying e = some (.struct #[g0, g1]))
    (t0 : f0.type = tp) (t1 : f1.type = e) (o0 : f0.offset = 0) (o1 : f1.offset = 1) (n0 : (f0.name != "_") = true) (n1 : (f1.name != "_") = true)
    (u0 : g0.type = ta) (u1 : g1.type = tb) (q0 : g0.offset = 0) (q1 : g1.offset = 1) (m0 : (g0.name != "_") = true) (m1 : (g1.name != "_") = true)
    (hp : P.underlying tp = some (.int .u8)) (ha : P.underlying ta = some (.int .u32)) (hb : P.underlying tb = some (.int .u16))
    (ck : P.cellsOf k = 3) (ce : P.cellsOf e = 2) (cp : P.cellsOf tp = 1) (ca : P.cellsOf ta = 1) (cb : P.cellsOf tb = 1) (x y z : Int)
    (w1 : (Lit.int .u8 x).wf = true) (w2 : (Lit.int .u32 y).wf = true) (w3 : (Lit.int .u16 z).wf = true) :
    P.keyLits (d + 3) k [.int .u8 x, .int .u32 y, .int .u16 z] = some [.int .u8 x, .int .u32 y, .int .u16 z] := by
  have a1 : ∀ (i : Nat) (x : i < 2), ¬ ([f0, f1][i]).name = "_" := by intro i h; match i, h with | 0, _ => simpa using n0 | 1, _ => simpa using n1
  have a2 : ∀ (i : Nat) (x : i < 2), ¬ ([g0, g1][i]).name = "_" := by intro i h; match i, h with | 0, _ => simpa using m0 | 1, _ => simpa using m1
  simp [Program.keyLits, a1, a2, hk, he, t0, t1, o0, o1, n0, n1, u0, u1, q0, q1, m0, m1, hp, ha, hb, ck, ce, cp, ca, cb, w1, w2, w3]
theorem keyOf_struct {P : Program} {k : TypeId} {fs : Array Field} (hk : P.underlying k = some (.struct fs)) (ht : P.keyType k = true) {xs : Array Value} (hc : xs.size = P.cellsOf k) {ls : List Lit} (hl : P.keyLits (P.types.size + 1) k xs.toList = some ls) :
    keyOf P k (.agg xs) = some (.string (keyBytes ls)) := by
  have hf : (Value.agg xs).formed P k = true := by simp [Value.formed, hk, hc]
  unfold keyOf
  rw [hk]
  simp [ht, hf, Value.cells, hl]
theorem size72 : Try.prog.types.size + 1 = (Try.prog.types.size - 2) + 3 := by kernel_rfl
theorem key72 {p a b : Nat} (hp : p < 256) (ha : a < 4294967296) (hb : b < 65536) : ∃ l, keyOf Try.prog 72 (kv p a b) = some l := by
  have w1 : (Lit.int .u8 (p : Nat)).wf = true := by simp [Lit.wf, IntKind.min, IntKind.max, IntKind.signed, IntKind.bits]; omega
  have w2 : (Lit.int .u32 (a : Nat)).wf = true := by simp [Lit.wf, IntKind.min, IntKind.max, IntKind.signed, IntKind.bits]; omega
  have w3 : (Lit.int .u16 (b : Nat)).wf = true := by simp [Lit.wf, IntKind.min, IntKind.max, IntKind.signed, IntKind.bits]; omega
  refine ⟨_, keyOf_struct Try.underlying72 keyType72 (by rw [cells72]; rfl) (ls := [.int .u8 (p : Nat), .int .u32 (a : Nat), .int .u16 (b : Nat)]) ?_⟩
  rw [size72]
  exact lits_of _ Try.underlying72 Try.underlying26 rfl rfl rfl rfl (by decide) (by decide) rfl rfl rfl rfl (by decide) (by decide) Try.underlying5 Try.underlying23 Try.underlying24 cells72 cells26 cells5 cells23 cells24 _ _ _ w1 w2 w3

def rwF (r : Rw) (i : Nat) : Value :=
  if i = 0 then .int .u8 (r.p : Nat) else if i = 1 then .int .u32 (r.oa : Nat) else if i = 2 then .int .u16 (r.ob : Nat) else if i = 3 then .int .u32 (r.ia : Nat) else if i = 4 then .int .u16 (r.ib : Nat)
  else if i = 5 then .int .i64 (r.live : Nat) else .int .i64 (r.held : Nat)
/-- A row, as a value. -/
abbrev rwV (r : Rw) : Value := .agg #[.int .u8 (r.p : Nat), .int .u32 (r.oa : Nat), .int .u16 (r.ob : Nat), .int .u32 (r.ia : Nat), .int .u16 (r.ib : Nat), .int .i64 (r.live : Nat), .int .i64 (r.held : Nat)]
abbrev rowsL (T : List (Rw × Nat)) : List (Value × Value) := T.map fun r => (kv r.1.p r.1.oa r.1.ob, .pointer (some ⟨r.2, 0, none⟩))
abbrev ofL (T : List (Rw × Nat)) : List (Value × Value) := T.map fun r => (kv r.1.p r.1.ia r.1.ib, ev r.1.oa r.1.ob)
/-- The row of an outer, of an inner endpoint. -/
def fO (T : List (Rw × Nat)) (p a b : Nat) : Option (Rw × Nat) := T.find? fun r => r.1.p == p && r.1.oa == a && r.1.ob == b
def fI (T : List (Rw × Nat)) (p a b : Nat) : Option (Rw × Nat) := T.find? fun r => r.1.p == p && r.1.ia == a && r.1.ib == b

/-- Ports at block x, their two maps at rb and ob, the rows each at a block of its own. -/
structure PsAt (w : World) (x rb ob : Nat) (T : List (Rw × Nat)) : Prop where
  row : w.rowIs x 68 2 (fun i => if i = 0 then .map (some rb) else .map (some ob))
  rows : MapAt Try.prog 72 w rb (rowsL T)
  of_ : MapAt Try.prog 72 w ob (ofL T)
  blk : ∀ r ∈ T, w.rowIs r.2 42 7 (rwF r.1)
  nodup : (T.map (·.2)).Nodup
  ok : ∀ r ∈ T, r.1.Ok
  ne : rb ≠ ob

/-- The blocks that are theirs. -/
def PsS (x rb ob : Nat) (T : List (Rw × Nat)) (k : Nat) : Prop := k = x ∨ k = rb ∨ k = ob ∨ ∃ r ∈ T, r.2 = k

theorem kv_inj {p a b p' a' b' : Nat} (h : kv p a b = kv p' a' b') : p = p' ∧ a = a' ∧ b = b' := by
  simp at h; omega
namespace PsAt
variable {w w' : World} {x rb ob : Nat} {T : List (Rw × Nat)}
theorem lt (h : PsAt w x rb ob T) : x < w.heap.size := h.row.lt
theorem c0 (h : PsAt w x rb ob T) : w.cell? ⟨x, 0, none⟩ = some (.map (some rb)) := h.row.cell (i := 0) (by omega)
theorem c1 (h : PsAt w x rb ob T) : w.cell? ⟨x, 1, none⟩ = some (.map (some ob)) := h.row.cell (i := 1) (by omega)
theorem gen {S : Nat → Prop} (h : PsAt w x rb ob T) (hu : Upto S w w') (hS : ∀ k, S k → ¬ PsS x rb ob T k) : PsAt w' x rb ob T :=
  ⟨hu.row h.row (fun hs => hS _ hs (.inl rfl)), h.rows.upto hu (fun hs => hS _ hs (.inr (.inl rfl))), h.of_.upto hu (fun hs => hS _ hs (.inr (.inr (.inl rfl)))),
   fun r hr => hu.row (h.blk r hr) (fun hs => hS _ hs (.inr (.inr (.inr ⟨r, hr, rfl⟩)))), h.nodup, h.ok, h.ne⟩
theorem upto (h : PsAt w x rb ob T) (hu : Upto NoS w w') : PsAt w' x rb ob T := h.gen hu (fun _ h => h.elim)
theorem alloc (h : PsAt w x rb ob T) (o : Obj) : PsAt (w.alloc o) x rb ob T := h.upto ((Upto.refl _ _).alloc o)
theorem drew (h : PsAt w x rb ob T) : PsAt w.drew x rb ob T := h.upto (Upto.refl _ _).drew
theorem drewN (h : PsAt w x rb ob T) (n : Nat) : PsAt (w.drewN n) x rb ob T := h.upto ((Upto.refl _ _).drewN n)

theorem fO_mem {p a b : Nat} {r : Rw × Nat} (hf : fO T p a b = some r) : r ∈ T ∧ r.1.p = p ∧ r.1.oa = a ∧ r.1.ob = b := by
  have h1 := List.mem_of_find?_eq_some hf
  have h2 := List.find?_some hf
  simp at h2
  exact ⟨h1, h2.1.1, h2.1.2, h2.2⟩
theorem fI_mem {p a b : Nat} {r : Rw × Nat} (hf : fI T p a b = some r) : r ∈ T ∧ r.1.p = p ∧ r.1.ia = a ∧ r.1.ib = b := by
  have h1 := List.mem_of_find?_eq_some hf
  have h2 := List.find?_some hf
  simp at h2
  exact ⟨h1, h2.1.1, h2.1.2, h2.2⟩
theorem fO_none {p a b : Nat} (hf : fO T p a b = none) : ∀ q ∈ rowsL T, q.1 ≠ kv p a b := by
  intro q hq e
  obtain ⟨r, hr, rfl⟩ := List.mem_map.1 hq
  have := List.find?_eq_none.1 hf r hr
  obtain ⟨h1, h2, h3⟩ := kv_inj e
  simp [h1, h2, h3] at this
theorem fI_none {p a b : Nat} (hf : fI T p a b = none) : ∀ q ∈ ofL T, q.1 ≠ kv p a b := by
  intro q hq e
  obtain ⟨r, hr, rfl⟩ := List.mem_map.1 hq
  have := List.find?_eq_none.1 hf r hr
  obtain ⟨h1, h2, h3⟩ := kv_inj e
  simp [h1, h2, h3] at this
/-- The look-ups, in whatever world. -/
theorem lookO (h : PsAt w x rb ob T) {p a b : Nat} {r : Rw × Nat} (hp : p < 256) (ha : a < 4294967296) (hb : b < 65536) (hf : fO T p a b = some r) :
    (Instr.lookup 65 (.map (some rb)) (kv p a b) false).run Try.prog w = .ok (.pointer (some ⟨r.2, 0, none⟩)) w := by
  obtain ⟨l, hl⟩ := key72 hp ha hb
  obtain ⟨h1, rfl, rfl, rfl⟩ := fO_mem hf
  exact h.rows.look_some false keyed72 Try.underlying65 hl (List.mem_map.2 ⟨r, h1, rfl⟩)
theorem lookO_no (h : PsAt w x rb ob T) {p a b : Nat} (hp : p < 256) (ha : a < 4294967296) (hb : b < 65536) (hf : fO T p a b = none) :
    (Instr.lookup 65 (.map (some rb)) (kv p a b) false).run Try.prog w = .ok (.pointer none) w := by
  obtain ⟨l, hl⟩ := key72 hp ha hb
  exact h.rows.look_none false keyed72 Try.underlying65 (Try.zeroValue73 w) hl (fO_none hf)
theorem lookI (h : PsAt w x rb ob T) {p a b : Nat} {r : Rw × Nat} (hp : p < 256) (ha : a < 4294967296) (hb : b < 65536) (hf : fI T p a b = some r) :
    (Instr.lookup 66 (.map (some ob)) (kv p a b) true).run Try.prog w = .ok (.tuple #[ev r.1.oa r.1.ob, .bool true]) w := by
  obtain ⟨l, hl⟩ := key72 hp ha hb
  obtain ⟨h1, rfl, rfl, rfl⟩ := fI_mem hf
  exact h.of_.look_some true keyed72 Try.underlying66 hl (List.mem_map.2 ⟨r, h1, rfl⟩)
theorem lookI_no (h : PsAt w x rb ob T) {p a b : Nat} (hp : p < 256) (ha : a < 4294967296) (hb : b < 65536) (hf : fI T p a b = none) :
    (Instr.lookup 66 (.map (some ob)) (kv p a b) true).run Try.prog w = .ok (.tuple #[ev 0 0, .bool false]) w := by
  obtain ⟨l, hl⟩ := key72 hp ha hb
  exact h.of_.look_none true keyed72 Try.underlying66 (Try.zeroValue26 w) hl (fI_none hf)
end PsAt

theorem none_no (w : World) (x rb ob : Nat) (T : List (Rw × Nat)) (h : PsAt w x rb ob T) :
    Calls Try.prog 29 #[.pointer (some ⟨x, 0, none⟩)] w fun e w' => e = .returned (.bool false) ∧ w = w' := by
  have hc := h.c0
  have he := run_eql_map_nil (P := Try.prog) w 65 72 73 (some rb) Try.underlying65
  clear h
  go_enter Try.func29, Try.ntmps29
  go_wp2
  go_ret
  exact ⟨rfl, rfl⟩
theorem none_nil (w : World) :
    Calls Try.prog 29 #[.pointer none] w fun e w' => e = .returned (.bool true) ∧ w = w' := by
  go_enter Try.func29, Try.ntmps29
  go_wp2
  go_ret
  exact ⟨rfl, rfl⟩
theorem none_zero (w : World) (x : Nat) (hc : w.cell? ⟨x, 0, none⟩ = some (.map none)) :
    Calls Try.prog 29 #[.pointer (some ⟨x, 0, none⟩)] w fun e w' => e = .returned (.bool true) ∧ w = w' := by
  have he := run_eql_map_nil (P := Try.prog) w 65 72 73 none Try.underlying65
  go_enter Try.func29, Try.ntmps29
  go_wp2
  go_ret
  exact ⟨rfl, rfl⟩

theorem row_some (w : World) (x rb ob : Nat) (T : List (Rw × Nat)) (p a b : Nat) (r : Rw × Nat) (h : PsAt w x rb ob T) (hp : p < 256) (ha : a < 4294967296) (hb : b < 65536) (hf : fO T p a b = some r) :
    Calls Try.prog 33 #[.pointer (some ⟨x, 0, none⟩), .int .u8 p, ev a b] w (Told (.tuple #[.pointer (some ⟨r.2, 0, none⟩), .int .i64 0]) w) := by
  have c0 := keep_alloc h.c0 (.cells #[.int .u32 a, .int .u16 b] 26)
  have hl := fun n => ((h.alloc (.cells #[.int .u32 a, .int .u16 b] 26)).drewN n).lookO hp ha hb hf
  go_enter Try.func33, Try.ntmps33
  go_wp2_with (go_at_call 29; refine (none_no _ _ _ _ _ (h.alloc _)).mono ?_; rintro e w' ⟨rfl, rfl⟩)
  go_upto_region 9 with (fail)
  go_quiet (fail)
  go_wp2
  go_ret2
  exact ⟨rfl, ((Upto.refl _ _).alloc _).drewN _⟩
theorem row_no (w : World) (x rb ob : Nat) (T : List (Rw × Nat)) (p a b : Nat) (h : PsAt w x rb ob T) (hp : p < 256) (ha : a < 4294967296) (hb : b < 65536) (hf : fO T p a b = none) :
    Calls Try.prog 33 #[.pointer (some ⟨x, 0, none⟩), .int .u8 p, ev a b] w (Told (.tuple #[.pointer none, .int .i64 6]) w) := by
  have c0 := keep_alloc h.c0 (.cells #[.int .u32 a, .int .u16 b] 26)
  have hl := fun n => ((h.alloc (.cells #[.int .u32 a, .int .u16 b] 26)).drewN n).lookO_no hp ha hb hf
  go_enter Try.func33, Try.ntmps33
  go_wp2_with (go_at_call 29; refine (none_no _ _ _ _ _ (h.alloc _)).mono ?_; rintro e w' ⟨rfl, rfl⟩)
  go_upto_region 9 with (fail)
  go_quiet (fail)
  go_wp2
  go_ret2
  exact ⟨rfl, ((Upto.refl _ _).alloc _).drewN _⟩
theorem row_nil (w : World) (p a b : Nat) :
    Calls Try.prog 33 #[.pointer none, .int .u8 p, ev a b] w (Told (.tuple #[.pointer none, .int .i64 1]) w) := by
  go_enter Try.func33, Try.ntmps33
  go_wp2_with (go_at_call 29; refine (none_nil _).mono ?_; rintro e w' ⟨rfl, rfl⟩)
  go_ret2
  exact ⟨rfl, ((Upto.refl _ _).alloc _)⟩
theorem row_zero (w : World) (x p a b : Nat) (hc : w.cell? ⟨x, 0, none⟩ = some (.map none)) :
    Calls Try.prog 33 #[.pointer (some ⟨x, 0, none⟩), .int .u8 p, ev a b] w (Told (.tuple #[.pointer none, .int .i64 1]) w) := by
  go_enter Try.func33, Try.ntmps33
  go_wp2_with (go_at_call 29; refine (none_zero _ _ (keep_alloc hc _)).mono ?_; rintro e w' ⟨rfl, rfl⟩)
  go_ret2
  exact ⟨rfl, ((Upto.refl _ _).alloc _)⟩
theorem rw_cells {w : World} {k : Nat} {r : Rw} (hR : w.rowIs k 42 7 (rwF r)) :
    w.cell? ⟨k, 0, none⟩ = some (.int .u8 (r.p : Nat)) ∧ w.cell? ⟨k, 1, none⟩ = some (.int .u32 (r.oa : Nat)) ∧ w.cell? ⟨k, 2, none⟩ = some (.int .u16 (r.ob : Nat)) ∧ w.cell? ⟨k, 3, none⟩ = some (.int .u32 (r.ia : Nat)) ∧
      w.cell? ⟨k, 4, none⟩ = some (.int .u16 (r.ib : Nat)) ∧ w.cell? ⟨k, 5, none⟩ = some (.int .i64 (r.live : Nat)) ∧ w.cell? ⟨k, 6, none⟩ = some (.int .i64 (r.held : Nat)) :=
  ⟨hR.cell (i := 0) (by omega), hR.cell (i := 1) (by omega), hR.cell (i := 2) (by omega), hR.cell (i := 3) (by omega), hR.cell (i := 4) (by omega), hR.cell (i := 5) (by omega), hR.cell (i := 6) (by omega)⟩
abbrev zrw : Array Value := #[.int .u8 0, .int .u32 0, .int .u16 0, .int .u32 0, .int .u16 0, .int .i64 0, .int .i64 0]
/-- The row that is nothing. -/
def rw0 : Rw := ⟨0, 0, 0, 0, 0, 0, 0⟩
theorem new_rw (w : World) : (w.alloc (.cells zrw 42)).rowIs w.heap.size 42 7 (rwF rw0) :=
  World.rowIs_alloc w zrw 42 (rwF rw0) (fun i hi => by
    have : i < 7 := hi
    match i, this with
    | 0, _ => rfl | 1, _ => rfl | 2, _ => rfl | 3, _ => rfl | 4, _ => rfl | 5, _ => rfl | 6, _ => rfl)
/-- A world in which a row's seven cells were written. -/
def set7 (w : World) (k : Nat) (r : Rw) : World :=
  ((((((w.setCell ⟨k, 0, none⟩ (.int .u8 (r.p : Nat))).setCell ⟨k, 1, none⟩ (.int .u32 (r.oa : Nat))).setCell ⟨k, 2, none⟩ (.int .u16 (r.ob : Nat))).setCell ⟨k, 3, none⟩ (.int .u32 (r.ia : Nat))).setCell ⟨k, 4, none⟩ (.int .u16 (r.ib : Nat))).setCell ⟨k, 5, none⟩ (.int .i64 (r.live : Nat))).setCell ⟨k, 6, none⟩ (.int .i64 (r.held : Nat))
theorem set7_row {w : World} {k : Nat} {f : Nat → Value} (hN : w.rowIs k 42 7 f) (r : Rw) : (set7 w k r).rowIs k 42 7 (rwF r) := by
  refine (((((((hN.set 0 _).set 1 _).set 2 _).set 3 _).set 4 _).set 5 _).set 6 _).congr fun i hi => ?_
  match i, hi with
  | 0, _ => rfl | 1, _ => rfl | 2, _ => rfl | 3, _ => rfl | 4, _ => rfl | 5, _ => rfl | 6, _ => rfl
theorem set7_upto {S : Nat → Prop} {w w' : World} {k : Nat} (h : Upto S w w') (hk : k < w.heap.size → S k) (r : Rw) : Upto S w (set7 w' k r) :=
  ((((((h.setCell _ _ hk).setCell _ _ hk).setCell _ _ hk).setCell _ _ hk).setCell _ _ hk).setCell _ _ hk).setCell _ _ hk
/-- What a row's cell and a number in a slot give back. -/
theorem res_rw {fn : Func} {p u : Tmp} (h : fn.results = #[.cell p 42, .tmp u]) (tmps : Array Value) {w : World} {k : Nat} {r : Rw} (hp : tmps.getD p undef = .pointer (some ⟨k, 0, none⟩)) (hR : w.rowIs k 42 7 (rwF r)) :
    (results fn tmps).run Try.prog w = .ok (.tuple #[rwV r, tmps.getD u undef]) w := by
  obtain ⟨d0, d1, d2, d3, d4, d5, d6⟩ := rw_cells hR
  have hp' : tmps[p]?.getD undef = .pointer (some ⟨k, 0, none⟩) := by simpa using hp
  simp [results, h, go_sem, hp', d0, d1, d2, d3, d4, d5, d6]
theorem Owner_some (w : World) (x rb ob : Nat) (T : List (Rw × Nat)) (p a b : Nat) (r : Rw × Nat) (h : PsAt w x rb ob T) (hp : p < 256) (ha : a < 4294967296) (hb : b < 65536) (hf : fO T p a b = some r) :
    Calls Try.prog 15 #[.pointer (some ⟨x, 0, none⟩), .int .u8 p, ev a b] w (Told (.tuple #[rwV r.1, .bool true]) w) := by
  obtain ⟨hr, rfl, rfl, rfl⟩ := PsAt.fO_mem hf
  have h2 := (h.alloc (.cells #[.int .u32 r.1.oa, .int .u16 r.1.ob] 26)).alloc (.cells zrw 42)
  have hn := new_rw (w.alloc (.cells #[.int .u32 r.1.oa, .int .u16 r.1.ob] 26))
  rw [World.size_alloc] at hn
  go_enter Try.func15, Try.ntmps15
  go_wp2_with (go_at_call 33; refine (row_some _ _ _ _ _ _ _ _ _ h2 hp ha hb hf).mono ?_; rintro e w1 ⟨rfl, hu⟩; obtain ⟨d0, d1, d2, d3, d4, d5, d6⟩ := rw_cells ((h2.upto hu).blk _ hr); have hN := hu.row hn (fun h => h.elim); obtain ⟨e0, e1, e2, e3, e4, e5, e6⟩ := rw_cells hN; have f0 := hN.frozen 0; have f1 := hN.frozen 1; have f2 := hN.frozen 2; have f3 := hN.frozen 3; have f4 := hN.frozen 4; have f5 := hN.frozen 5; have f6 := hN.frozen 6)
  refine bodyPost_ret (res_rw (w := set7 w1 (w.heap.size + 1) r.1) Try.results15 _ rfl (set7_row hN r.1)) rfl ⟨rfl, ?_⟩
  exact set7_upto ((((Upto.refl _ _).alloc _).alloc _).trans hu) (fun h => by omega) _
theorem Owner_no (w : World) (x rb ob : Nat) (T : List (Rw × Nat)) (p a b : Nat) (h : PsAt w x rb ob T) (hp : p < 256) (ha : a < 4294967296) (hb : b < 65536) (hf : fO T p a b = none) :
    Calls Try.prog 15 #[.pointer (some ⟨x, 0, none⟩), .int .u8 p, ev a b] w (Told (.tuple #[rwV rw0, .bool false]) w) := by
  have h2 := (h.alloc (.cells #[.int .u32 a, .int .u16 b] 26)).alloc (.cells zrw 42)
  have hn := new_rw (w.alloc (.cells #[.int .u32 a, .int .u16 b] 26))
  rw [World.size_alloc] at hn
  go_enter Try.func15, Try.ntmps15
  go_wp2_with (go_at_call 33; refine (row_no _ _ _ _ _ _ _ _ h2 hp ha hb hf).mono ?_; rintro e w1 ⟨rfl, hu⟩; have hN := hu.row hn (fun h => h.elim); obtain ⟨e0, e1, e2, e3, e4, e5, e6⟩ := rw_cells hN; have f0 := hN.frozen 0; have f1 := hN.frozen 1; have f2 := hN.frozen 2; have f3 := hN.frozen 3; have f4 := hN.frozen 4; have f5 := hN.frozen 5; have f6 := hN.frozen 6)
  have hs : set7 w1 (w.heap.size + 1) rw0 = ((((((w1.setCell ⟨w.heap.size + 1, 0, none⟩ (.int .u8 0)).setCell ⟨w.heap.size + 1, 1, none⟩ (.int .u32 0)).setCell ⟨w.heap.size + 1, 2, none⟩ (.int .u16 0)).setCell ⟨w.heap.size + 1, 3, none⟩ (.int .u32 0)).setCell ⟨w.heap.size + 1, 4, none⟩ (.int .u16 0)).setCell ⟨w.heap.size + 1, 5, none⟩ (.int .i64 0)).setCell ⟨w.heap.size + 1, 6, none⟩ (.int .i64 0) := rfl
  rw [← hs]
  refine bodyPost_ret (res_rw Try.results15 _ rfl (set7_row hN rw0)) rfl ⟨rfl, ?_⟩
  exact set7_upto ((((Upto.refl _ _).alloc _).alloc _).trans hu) (fun h => by omega) _
end Go.Proofs.Ytfiblchdfacdiaa
