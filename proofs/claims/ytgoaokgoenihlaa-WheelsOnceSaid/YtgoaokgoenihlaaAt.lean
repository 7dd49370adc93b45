/- What it is that a wheel lies at a place in memory. -/
import Derived.Test.YtgoaokgoenihlaaChecked
import Derived.Test.YtgoaokgoenihlaaMaps
import Derived.Test.YtgoaokgoenihlaaModel
namespace Go.Proofs.Ytgoaokgoenihlaa
open Go Go.RowKit Go.Deep Go.Maps

/-- A handle, as a value. -/
abbrev hv (h : Hn) : Value := .agg #[.int .i64 h.s, .int .u32 (h.g : Nat)]
theorem laidOut : laidOutB Try.prog = true := by kernel_rfl
theorem row31 : 31 < Try.prog.types.size := of_decide_eq_true (by kernel_rfl)
theorem keyed_of {P : Program} {k : TypeId} {fs : Array Field} (hl : laidOutB P = true) (hr : k < P.types.size) (hk : P.keyTypeAt 3 k = true) (hu : P.underlying k = some (.struct fs)) : Keyed P k :=
  Keyed.of_law (deep_law_laid hl (m := 3) (by omega) hr hk (by rw [hu]))
theorem keyed31 : Keyed Try.prog 31 := keyed_of laidOut row31 (by kernel_rfl) Try.underlying31
theorem cells31 : Try.prog.cellsOf 31 = 2 := by kernel_rfl
theorem cells3 : Try.prog.cellsOf 3 = 1 := by kernel_rfl
theorem cells29 : Try.prog.cellsOf 29 = 1 := by kernel_rfl
theorem keyType31 : Try.prog.keyType 31 = true := by kernel_rfl
theorem lits_of {P : Program} (d : Nat) {k ta tb : TypeId} {f0 f1 : Field} (hk : P.underlying k = some (.struct #[f0, f1]))
    (t0 : f0.type = ta) (t1 : f1.type = tb) (o0 : f0.offset = 0) (o1 : f1.offset = 1) (n0 : (f0.name != "_") = true) (n1 : (f1.name != "_") = true)
    (ha : P.underlying ta = some (.int .i64)) (hb : P.underlying tb = some (.int .u32))
    (ck : P.cellsOf k = 2) (ca : P.cellsOf ta = 1) (cb : P.cellsOf tb = 1) (x y : Int)
    (w1 : (Lit.int .i64 x).wf = true) (w2 : (Lit.int .u32 y).wf = true) :
    P.keyLits (d + 2) k [.int .i64 x, .int .u32 y] = some [.int .i64 x, .int .u32 y] := by
  have b0 : ¬ f0.name = "_" := by simpa using n0
  have b1 : ¬ f1.name = "_" := by simpa using n1
  simp [Program.keyLits, hk, t0, t1, o0, o1, b0, b1, ha, hb, ck, ca, cb, w1, w2]
theorem keyOf_struct {P : Program} {k : TypeId} {fs : Array Field} (hk : P.underlying k = some (.struct fs)) (ht : P.keyType k = true) {xs : Array Value} (hc : xs.size = P.cellsOf k) {ls : List Lit} (hl : P.keyLits (P.types.size + 1) k xs.toList = some ls) :
    keyOf P k (.agg xs) = some (.string (keyBytes ls)) := by
  have hf : (Value.agg xs).formed P k = true := by simp [Value.formed, hk, hc]
  unfold keyOf
  rw [hk]
  simp [ht, hf, Value.cells, hl]
theorem size31 : Try.prog.types.size + 1 = (Try.prog.types.size - 1) + 2 := by kernel_rfl
theorem key31 {h : Hn} (hh : h.Ok) : ∃ l, keyOf Try.prog 31 (hv h) = some l := by
  have w1 : (Lit.int .i64 h.s).wf = true := by have := hh.lo; have := hh.hi; simp [Lit.wf, IntKind.min, IntKind.max, IntKind.signed, IntKind.bits]; omega
  have w2 : (Lit.int .u32 (h.g : Nat)).wf = true := by have := hh.g; simp [Lit.wf, IntKind.min, IntKind.max, IntKind.signed, IntKind.bits]; omega
  refine ⟨_, keyOf_struct Try.underlying31 keyType31 (by rw [cells31]; rfl) (ls := [.int .i64 h.s, .int .u32 (h.g : Nat)]) ?_⟩
  rw [size31]
  exact lits_of _ Try.underlying31 rfl rfl rfl rfl (by decide) (by decide) Try.underlying3 Try.underlying29 cells31 cells3 cells29 _ _ w1 w2
theorem hv_inj {a b : Hn} (h : hv a = hv b) : a = b := by
  cases a; cases b
  simp at h
  simp; omega

/-- A timer's cells. -/
abbrev tcs (t : Tm) : List Value := [.int .i64 (t.d : Nat), .int .i64 t.h.s, .int .u32 (t.h.g : Nat)]
abbrev tmv (t : Tm) : Value := .agg #[.int .i64 (t.d : Nat), .int .i64 t.h.s, .int .u32 (t.h.g : Nat)]
def tcl (L : List Tm) : List Value := L.flatMap tcs
theorem tcl_append (L M : List Tm) : tcl (L ++ M) = tcl L ++ tcl M := by simp [tcl]
theorem tcl_one (t : Tm) : tcl [t] = tcs t := rfl
theorem tcl_length (L : List Tm) : (tcl L).length = L.length * 3 := by
  induction L with
  | nil => rfl
  | cons p l ih => simp only [tcl, List.flatMap_cons, List.length_append, List.length_cons, List.length_nil] at ih ⊢; omega
/-- The j-th one's three. -/
def td (L : List Tm) (j : Nat) : Nat := (L.getD j ⟨0, ⟨0, 0⟩⟩).d
def ts (L : List Tm) (j : Nat) : Int := (L.getD j ⟨0, ⟨0, 0⟩⟩).h.s
def tg (L : List Tm) (j : Nat) : Nat := (L.getD j ⟨0, ⟨0, 0⟩⟩).h.g
theorem tcl_at (L : List Tm) (j : Nat) (h : j < L.length) : (tcl L)[j * 3]? = some (.int .i64 (td L j : Nat)) ∧ (tcl L)[j * 3 + 1]? = some (.int .i64 (ts L j)) ∧ (tcl L)[j * 3 + 2]? = some (.int .u32 (tg L j : Nat)) := by
  induction L generalizing j with
  | nil => simp at h
  | cons p l ih =>
    cases j with
    | zero => exact ⟨rfl, rfl, rfl⟩
    | succ j =>
      have := ih j (by simpa using h)
      rw [show (j + 1) * 3 = j * 3 + 3 from by omega]
      simpa [tcl, td, ts, tg] using this
theorem tm_at (L : List Tm) (j : Nat) (h : j < L.length) : (⟨td L j, ⟨ts L j, tg L j⟩⟩ : Tm) = L[j] := by simp [td, ts, tg, h]
theorem own_tcl {w : World} {base e q m c : Nat} {L : List Tm} (h : w.ownsRow base e 3 (.slice (some ⟨q, 0, none⟩) m c) m (tcl L)) (j : Nat) (hj : j < L.length) :
    w.cell? ⟨q, j * 3, none⟩ = some (.int .i64 (td L j : Nat)) ∧ w.cell? ⟨q, j * 3 + 1, none⟩ = some (.int .i64 (ts L j)) ∧ w.cell? ⟨q, j * 3 + 2, none⟩ = some (.int .u32 (tg L j : Nat)) := by
  have c1 := h.cells (g := q) rfl (j * 3) _ (tcl_at L j hj).1
  have c2 := h.cells (g := q) rfl (j * 3 + 1) _ (tcl_at L j hj).2.1
  have c3 := h.cells (g := q) rfl (j * 3 + 2) _ (tcl_at L j hj).2.2
  rw [Addr.add_lit, Nat.zero_add] at c1 c2 c3
  exact ⟨c1, c2, c3⟩

def whF (g m n last : Nat) (i : Nat) : Value :=
  if i = 0 then .slice (some ⟨g, 0, none⟩) n n else if i = 1 then .map (some m) else .int .i64 (last : Nat)
abbrev spv (n last d : Nat) : Value := .agg #[.int .i64 (d : Nat), .int .i64 (plc n last d : Nat)]
abbrev ent (n last : Nat) (t : Tm) : Value × Value := (hv t.h, spv n last t.d)

/-- A wheel at block x, its places at block g, each behind the value vs k and with pf k in it, its map at m, with L in it. -/
structure WhMid (w : World) (x g m : Nat) (vs : Nat → Value) (n last : Nat) (pf : Nat → List Tm) (L : List (Value × Value)) : Prop where
  row : w.rowIs x 61 3 (whF g m n last)
  pl : w.rowIs g 67 n vs
  each : ∀ k, k < n → w.ownsRow (x + 1) 69 3 (vs k) (pf k).length (tcl (pf k))
  apart : ∀ i j, i < n → j < n → i ≠ j → ∀ b, (vs i).ownBlock = some b → (vs j).ownBlock ≠ some b
  mp : MapAt Try.prog 31 w m L
  gx : g < x
  mx : m < x

/-- The blocks that are its own. -/
def WhS (x g m : Nat) (vs : Nat → Value) (n k : Nat) : Prop := k = x ∨ k = g ∨ k = m ∨ ∃ i, i < n ∧ (vs i).ownBlock = some k

namespace WhMid
variable {w w' : World} {x g m : Nat} {vs : Nat → Value} {n last : Nat} {pf : Nat → List Tm} {L : List (Value × Value)}
theorem lt (h : WhMid w x g m vs n last pf L) : x < w.heap.size := h.row.lt
theorem c0 (h : WhMid w x g m vs n last pf L) : w.cell? ⟨x, 0, none⟩ = some (.slice (some ⟨g, 0, none⟩) n n) := h.row.cell (i := 0) (by omega)
theorem c1 (h : WhMid w x g m vs n last pf L) : w.cell? ⟨x, 1, none⟩ = some (.map (some m)) := h.row.cell (i := 1) (by omega)
theorem c2 (h : WhMid w x g m vs n last pf L) : w.cell? ⟨x, 2, none⟩ = some (.int .i64 (last : Nat)) := h.row.cell (i := 2) (by omega)
theorem pc (h : WhMid w x g m vs n last pf L) {i : Nat} (hi : i < n) : w.cell? ⟨g, i, none⟩ = some (vs i) := h.pl.cell hi
theorem gm (h : WhMid w x g m vs n last pf L) : m ≠ g := h.mp.ne_row h.pl
theorem vlt (h : WhMid w x g m vs n last pf L) {i k : Nat} (hi : i < n) (hk : (vs i).ownBlock = some k) : x < k ∧ k < w.heap.size := by have := (h.each i hi).lt k hk; omega
theorem slt (h : WhMid w x g m vs n last pf L) {k : Nat} (hk : WhS x g m vs n k) : k < w.heap.size := by
  have := h.lt; have := h.gx; have := h.mx
  rcases hk with rfl | rfl | rfl | ⟨i, hi, hk⟩
  · omega
  · omega
  · omega
  · exact (h.vlt hi hk).2
theorem gen {T : Nat → Prop} (h : WhMid w x g m vs n last pf L) (hu : Upto T w w') (hT : ∀ k, T k → ¬ WhS x g m vs n k) : WhMid w' x g m vs n last pf L :=
  ⟨hu.row h.row (fun hs => hT _ hs (.inl rfl)), hu.row h.pl (fun hs => hT _ hs (.inr (.inl rfl))), fun k hk => hu.own (h.each k hk) (fun b hb hs => hT _ hs (.inr (.inr (.inr ⟨k, hk, hb⟩)))), h.apart,
   h.mp.upto hu (fun hs => hT _ hs (.inr (.inr (.inl rfl)))), h.gx, h.mx⟩
theorem upto (h : WhMid w x g m vs n last pf L) (hu : Upto NoS w w') : WhMid w' x g m vs n last pf L := h.gen hu (fun _ h => h.elim)
theorem alloc (h : WhMid w x g m vs n last pf L) (o : Obj) : WhMid (w.alloc o) x g m vs n last pf L := h.upto ((Upto.refl _ _).alloc o)
theorem drew (h : WhMid w x g m vs n last pf L) : WhMid w.drew x g m vs n last pf L := h.upto (Upto.refl _ _).drew
theorem drewN (h : WhMid w x g m vs n last pf L) (k : Nat) : WhMid (w.drewN k) x g m vs n last pf L := h.upto ((Upto.refl _ _).drewN k)
/-- One place has turned, and the map. -/
theorem turned {q : Nat} {nv : Value} {T : Nat → Prop} {pf' : Nat → List Tm} {L' : List (Value × Value)} (h : WhMid w x g m vs n last pf L) (hq : q < n) (hu : Upto T w w') (hT : ∀ k, T k → k = m ∨ k = g ∨ (vs q).ownBlock = some k)
    (pl' : w'.rowIs g 67 n (fun i => if i = q then nv else vs i)) (mp' : MapAt Try.prog 31 w' m L') (own' : w'.ownsRow (x + 1) 69 3 nv (pf' q).length (tcl (pf' q)))
    (hnv : ∀ k, nv.ownBlock = some k → (vs q).ownBlock = some k ∨ w.heap.size ≤ k) (hat : ∀ k, k ≠ q → pf' k = pf k) : WhMid w' x g m (fun i => if i = q then nv else vs i) n last pf' L' := by
  have hgx := h.gx
  have hmx := h.mx
  refine ⟨hu.row h.row (fun hs => ?_), pl', fun k hk => ?_, fun i j hi hj hij b hb => ?_, mp', h.gx, h.mx⟩
  · rcases hT _ hs with e | e | e
    · omega
    · omega
    · have := h.vlt hq e; omega
  · by_cases e : k = q
    · subst e; simpa using own'
    · simp only [if_neg e]
      rw [hat k e]
      refine hu.own (h.each k hk) (fun b hb hs => ?_)
      have hb2 := h.vlt hk hb
      rcases hT _ hs with e1 | e1 | e1
      · omega
      · omega
      · exact h.apart k q hk hq e b hb e1
  · by_cases e1 : i = q
    · subst e1
      have e2 : ¬ j = i := fun e => hij e.symm
      simp only [if_true] at hb
      simp only [if_neg e2]
      rcases hnv b hb with h1 | h1
      · exact h.apart i j hi hj hij b h1
      · intro hb2; have := h.vlt hj hb2; omega
    · simp only [if_neg e1] at hb
      by_cases e2 : j = q
      · subst e2
        simp only [if_true]
        intro hb2
        rcases hnv b hb2 with h1 | h1
        · exact h.apart i j hi hj hij b hb h1
        · have := h.vlt hi hb; omega
      · simp only [if_neg e2]
        exact h.apart i j hi hj hij b hb
end WhMid

/-- A wheel at block x, at rest. -/
structure WhIn (w : World) (x g m : Nat) (vs : Nat → Value) (S : Wh) : Prop where
  mid : WhMid w x g m vs S.n S.last S.at (S.E.map (ent S.n S.last))
  ok : S.Ok

namespace WhIn
variable {w w' : World} {x g m : Nat} {vs : Nat → Value} {S : Wh}
theorem lt (h : WhIn w x g m vs S) : x < w.heap.size := h.mid.lt
theorem c0 (h : WhIn w x g m vs S) : w.cell? ⟨x, 0, none⟩ = some (.slice (some ⟨g, 0, none⟩) S.n S.n) := h.mid.c0
theorem c1 (h : WhIn w x g m vs S) : w.cell? ⟨x, 1, none⟩ = some (.map (some m)) := h.mid.c1
theorem c2 (h : WhIn w x g m vs S) : w.cell? ⟨x, 2, none⟩ = some (.int .i64 (S.last : Nat)) := h.mid.c2
theorem pc (h : WhIn w x g m vs S) {i : Nat} (hi : i < S.n) : w.cell? ⟨g, i, none⟩ = some (vs i) := h.mid.pc hi
theorem gen {T : Nat → Prop} (h : WhIn w x g m vs S) (hu : Upto T w w') (hT : ∀ k, T k → ¬ WhS x g m vs S.n k) : WhIn w' x g m vs S := ⟨h.mid.gen hu hT, h.ok⟩
theorem upto (h : WhIn w x g m vs S) (hu : Upto NoS w w') : WhIn w' x g m vs S := h.gen hu (fun _ h => h.elim)
theorem alloc (h : WhIn w x g m vs S) (o : Obj) : WhIn (w.alloc o) x g m vs S := h.upto ((Upto.refl _ _).alloc o)
theorem drew (h : WhIn w x g m vs S) : WhIn w.drew x g m vs S := h.upto (Upto.refl _ _).drew
theorem drewN (h : WhIn w x g m vs S) (n : Nat) : WhIn (w.drewN n) x g m vs S := h.upto ((Upto.refl _ _).drewN n)
theorem find_no {a : Hn} (h : S.find a = none) (n last : Nat) : ∀ p ∈ S.E.map (ent n last), p.1 ≠ hv a := by
  intro p hp e
  obtain ⟨t, ht, rfl⟩ := List.mem_map.1 hp
  exact Wh.find_none h t ht (hv_inj e)
theorem look (h : WhIn w x g m vs S) {a : Hn} {t : Tm} (ha : a.Ok) (hf : S.find a = some t) :
    (Instr.lookup 59 (.map (some m)) (hv a) true).run Try.prog w = .ok (.tuple #[spv S.n S.last t.d, .bool true]) w := by
  obtain ⟨l, hl⟩ := key31 ha
  obtain ⟨h1, rfl⟩ := Wh.find_mem hf
  exact h.mid.mp.look_some true keyed31 Try.underlying59 hl (List.mem_map.2 ⟨t, h1, rfl⟩)
theorem look_no (h : WhIn w x g m vs S) {a : Hn} (ha : a.Ok) (hf : S.find a = none) :
    (Instr.lookup 59 (.map (some m)) (hv a) true).run Try.prog w = .ok (.tuple #[.agg #[.int .i64 0, .int .i64 0], .bool false]) w := by
  obtain ⟨l, hl⟩ := key31 ha
  exact h.mid.mp.look_none true keyed31 Try.underlying59 (Try.zeroValue65 w) hl (find_no hf _ _)
end WhIn

/-- A wheel at block x, all of whose blocks are among those in O. -/
def WhAt (w : World) (x : Nat) (O : Nat → Prop) (S : Wh) : Prop := ∃ g m vs, WhIn w x g m vs S ∧ (∀ k, WhS x g m vs S.n k → O k) ∧ ∀ k, O k → k < w.heap.size
/-- What a method leaves. -/
def WhPost (x : Nat) (O : Nat → Prop) (S' : Wh) (w : World) (v : Value) (e : Ending) (w' : World) : Prop :=
  e = .returned v ∧ ∃ O', WhAt w' x O' S' ∧ Upto O w w' ∧ ∀ k, O' k → O k ∨ w.heap.size ≤ k
theorem WhAt.gen {w w' : World} {x : Nat} {O T : Nat → Prop} {S : Wh} (h : WhAt w x O S) (hu : Upto T w w') (hT : ∀ k, T k → ¬ O k) : WhAt w' x O S := by
  obtain ⟨g, m, vs, h1, h2, h3⟩ := h
  exact ⟨g, m, vs, h1.gen hu (fun k hk hs => hT k hk (h2 k hs)), h2, fun k hk => Nat.lt_of_lt_of_le (h3 k hk) hu.size⟩

theorem none_mid (w : World) (x g m : Nat) (vs : Nat → Value) (n last : Nat) (pf : Nat → List Tm) (L : List (Value × Value)) (h : WhMid w x g m vs n last pf L) :
    Calls Try.prog 25 #[.pointer (some ⟨x, 0, none⟩)] w fun e w' => e = .returned (.bool false) ∧ w = w' := by
  have hc := h.c1
  have he := run_eql_map_nil (P := Try.prog) w 59 31 65 (some m) Try.underlying59
  clear h
  go_enter Try.func25, Try.ntmps25
  go_wp2
  go_ret
  exact ⟨rfl, rfl⟩
theorem none_no (w : World) (x g m : Nat) (vs : Nat → Value) (S : Wh) (h : WhIn w x g m vs S) :
    Calls Try.prog 25 #[.pointer (some ⟨x, 0, none⟩)] w fun e w' => e = .returned (.bool false) ∧ w = w' := none_mid w x g m vs _ _ _ _ h.mid
theorem none_nil (w : World) :
    Calls Try.prog 25 #[.pointer none] w fun e w' => e = .returned (.bool true) ∧ w = w' := by
  go_enter Try.func25, Try.ntmps25
  go_wp2
  go_ret
  exact ⟨rfl, rfl⟩
theorem none_zero (w : World) (x : Nat) (hc : w.cell? ⟨x, 1, none⟩ = some (.map none)) :
    Calls Try.prog 25 #[.pointer (some ⟨x, 0, none⟩)] w fun e w' => e = .returned (.bool true) ∧ w = w' := by
  have he := run_eql_map_nil (P := Try.prog) w 59 31 65 none Try.underlying59
  go_enter Try.func25, Try.ntmps25
  go_wp2
  go_ret
  exact ⟨rfl, rfl⟩

theorem Count_any (w : World) (x g m : Nat) (vs : Nat → Value) (S : Wh) (h : WhIn w x g m vs S) :
    Calls Try.prog 13 #[.pointer (some ⟨x, 0, none⟩)] w fun e w' => e = .returned (.int .i64 (S.E.length : Nat)) ∧ w = w' := by
  have hc := h.c1
  have hl := h.mid.mp.len Try.underlying59
  rw [List.length_map] at hl
  go_enter Try.func13, Try.ntmps13
  go_wp2_with (go_at_call 25; refine (none_no _ _ _ _ _ _ h).mono ?_; rintro e w' ⟨rfl, rfl⟩)
  go_ret
  exact ⟨rfl, rfl⟩

def dueV : Option Tm → Value
  | some t => .tuple #[.int .i64 (t.d : Nat), .bool true]
  | none => .tuple #[.int .i64 0, .bool false]
theorem Due_any (w : World) (x g m : Nat) (vs : Nat → Value) (S : Wh) (a : Hn) (h : WhIn w x g m vs S) (ha : a.Ok) :
    Calls Try.prog 21 #[.pointer (some ⟨x, 0, none⟩), hv a] w (Told (dueV (S.find a)) w) := by
  have h2 := h.alloc (.cells #[.int .i64 a.s, .int .u32 (a.g : Nat)] 31)
  have h3 := h2.alloc (.cells #[.int .i64 0, .int .i64 0] 65)
  have c1 := h2.c1
  have c2 := h3.c1
  have hu : Upto NoS w _ := ((Upto.refl NoS w).alloc (.cells #[.int .i64 a.s, .int .u32 (a.g : Nat)] 31)).alloc (.cells #[.int .i64 0, .int .i64 0] 65)
  cases hf : S.find a with
  | none =>
    have l1 := h2.drew.look_no ha hf
    have l2 := h3.drew.look_no ha hf
    go_enter Try.func21, Try.ntmps21
    go_wp2_with (go_at_call 25; refine (none_no _ _ _ _ _ _ h2).mono ?_; rintro e w' ⟨rfl, rfl⟩)
    go_region
    all_goals
      go_wp2
      go_ret2
      refine ⟨rfl, ?_⟩
      first | exact hu.drew | exact (((Upto.refl NoS w).alloc _).alloc _).drew
  | some t =>
    have l1 := h2.drew.look ha hf
    have l2 := h3.drew.look ha hf
    go_enter Try.func21, Try.ntmps21
    go_wp2_with (go_at_call 25; refine (none_no _ _ _ _ _ _ h2).mono ?_; rintro e w' ⟨rfl, rfl⟩)
    go_region
    all_goals
      go_wp2
      go_ret2
      refine ⟨rfl, ?_⟩
      first | exact hu.drew | exact (((Upto.refl NoS w).alloc _).alloc _).drew
end Go.Proofs.Ytgoaokgoenihlaa
