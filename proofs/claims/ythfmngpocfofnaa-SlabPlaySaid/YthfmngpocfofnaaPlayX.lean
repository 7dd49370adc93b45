/- What a round of SlabPlay keeps in memory: both slabs, each of a state of its own, the handles, the act and the handle in hand. -/
import Derived.Test.YthfmngpocfofnaaPlayAt
import Derived.Deep.CutBlock
import Derived.Deep.DeepMust
namespace Go.Proofs.Ythfmngpocfofnaa
open Go Go.RowKit Go.Deep Md

structure PX (w0 w : World) (b r g cap : Nat) (vh : Value) (s1 s2 : St) (H : List (Nat × Nat)) (xb : Nat) (x : ActV) (s t : Int) : Prop where
  slab : SlabAt w b s1
  ref : RefAt w r g cap s2
  had : w.ownsRow (g + 1) 31 2 vh H.length (hcl H)
  bel : Below w0.heap.size w0 w
  hw : w0.heap.size ≤ b
  hb : b < r
  hr : r < g
  hx : g < xb
  x0 : w.cell? ⟨xb, 0, none⟩ = some (.int .u8 (x.kind : Nat))
  x1 : w.cell? ⟨xb, 1, none⟩ = some (.int .u8 (x.at_ : Nat))
  x2 : w.cell? ⟨xb, 2, none⟩ = some (.int .i64 x.slot)
  x3 : w.cell? ⟨xb, 3, none⟩ = some (.int .u32 x.gen)
  x4 : w.cell? ⟨xb, 4, none⟩ = some (.int .i64 x.raw)
  y : w.rowIs (xb + 1) 31 2 (handleF s t)
  xok : x.ok
  sok : -9223372036854775808 ≤ s ∧ s ≤ 9223372036854775807
  tok : 0 ≤ t ∧ t < 4294967296

/-- What a call leaves. -/
def PXO (w0 : World) (b r g cap : Nat) (vh : Value) (s1 s2 : St) (H : List (Nat × Nat)) (xb : Nat) (x : ActV) (s t : Int) (v : Value) (e : Ending) (w' : World) : Prop :=
  e = .returned v ∧ PX w0 w' b r g cap vh s1 s2 H xb x s t

namespace PX
variable {w0 w w' : World} {b r g cap : Nat} {vh : Value} {s1 s2 s' : St} {H : List (Nat × Nat)} {xb : Nat} {x : ActV} {s t : Int}
theorem y0 (h : PX w0 w b r g cap vh s1 s2 H xb x s t) : w.cell? ⟨xb + 1, 0, none⟩ = some (.int .i64 s) := h.y.cell (i := 0) (by omega)
theorem y1 (h : PX w0 w b r g cap vh s1 s2 H xb x s t) : w.cell? ⟨xb + 1, 1, none⟩ = some (.int .u32 t) := h.y.cell (i := 1) (by omega)
theorem gen {S : Nat → Prop} (h : PX w0 w b r g cap vh s1 s2 H xb x s t) (hu : Upto S w w') (hS : ∀ k, S k → k ≤ g) (hS0 : ∀ k, S k → w0.heap.size ≤ k) {s1' s2' : St} (k1 : SlabAt w' b s1') (k2 : RefAt w' r g cap s2') : PX w0 w' b r g cap vh s1' s2' H xb x s t := by
  have n1 : ∀ k, g < k → ¬ S k := fun k hk hs => by have := hS k hs; omega
  have hx := h.hx
  exact ⟨k1, k2, hu.own h.had (fun k hk => n1 k (h.had.lt k hk).1), h.bel.trans (hu.below (by have := h.bel.size; omega) hS0), h.hw, h.hb, h.hr, h.hx,
    hu.keep h.x0 (n1 _ hx), hu.keep h.x1 (n1 _ hx), hu.keep h.x2 (n1 _ hx), hu.keep h.x3 (n1 _ hx), hu.keep h.x4 (n1 _ hx), hu.row h.y (n1 _ (by omega)), h.xok, h.sok, h.tok⟩
theorem upto (h : PX w0 w b r g cap vh s1 s2 H xb x s t) (hu : Upto NoS w w') : PX w0 w' b r g cap vh s1 s2 H xb x s t :=
  h.gen hu (fun _ h => h.elim) (fun _ h => h.elim) (h.slab.upto hu id) (h.ref.upto hu id id)
theorem alloc (h : PX w0 w b r g cap vh s1 s2 H xb x s t) (o : Obj) : PX w0 (w.alloc o) b r g cap vh s1 s2 H xb x s t := h.upto ((Upto.refl _ _).alloc o)
theorem drew (h : PX w0 w b r g cap vh s1 s2 H xb x s t) : PX w0 w.drew b r g cap vh s1 s2 H xb x s t := h.upto (Upto.refl _ _).drew
theorem drewN (h : PX w0 w b r g cap vh s1 s2 H xb x s t) (n : Nat) : PX w0 (w.drewN n) b r g cap vh s1 s2 H xb x s t := h.upto ((Upto.refl _ _).drewN n)
theorem turn1 (h : PX w0 w b r g cap vh s1 s2 H xb x s t) (hs : SlabAt w' b s') (hu : Upto (· = b) w w') : PX w0 w' b r g cap vh s' s2 H xb x s t := by
  have h1 := h.hw; have h2 := h.hb; have h3 := h.hr
  exact h.gen hu (fun k hk => by omega) (fun k hk => by omega) hs (h.ref.upto hu (by omega) (by omega))
theorem turn2 (h : PX w0 w b r g cap vh s1 s2 H xb x s t) (hs : RefAt w' r g cap s') (hu : Upto (· = g) w w') : PX w0 w' b r g cap vh s1 s' H xb x s t := by
  have h1 := h.hw; have h2 := h.hb; have h3 := h.hr
  exact h.gen hu (fun k hk => by omega) (fun k hk => by omega) (h.slab.upto hu (by omega)) hs
/-- The handle in hand is another one. -/
theorem take (h : PX w0 w b r g cap vh s1 s2 H xb x s t) {s' t' : Int} (own : ∀ k, vh.ownBlock = some k → k < xb) (a : -9223372036854775808 ≤ s' ∧ s' ≤ 9223372036854775807) (c : 0 ≤ t' ∧ t' < 4294967296) :
    PX w0 ((w.setCell ⟨xb + 1, 0, none⟩ (.int .i64 s')).setCell ⟨xb + 1, 1, none⟩ (.int .u32 t')) b r g cap vh s1 s2 H xb x s' t' := by
  have hu : Upto (· = xb + 1) w ((w.setCell ⟨xb + 1, 0, none⟩ (.int .i64 s')).setCell ⟨xb + 1, 1, none⟩ (.int .u32 t')) := ((Upto.refl (fun x => x = xb + 1) w).setB rfl _).setB rfl _
  have h1 := h.hw; have h2 := h.hb; have h3 := h.hr; have h4 := h.hx
  have n1 : ¬ xb = xb + 1 := by omega
  refine ⟨h.slab.upto hu (by omega), h.ref.upto hu (by omega) (by omega), hu.own h.had (fun k hk e => by have := own k hk; omega), h.bel.trans (hu.below (by have := h.bel.size; omega) (fun k hk => by omega)), h.hw, h.hb, h.hr, h.hx,
    hu.keep h.x0 n1, hu.keep h.x1 n1, hu.keep h.x2 n1, hu.keep h.x3 n1, hu.keep h.x4 n1, ((h.y.set 0 _).set 1 _).congr (fun i hi => ?_), h.xok, a, c⟩
  match i, hi with
  | 0, _ => rfl
  | 1, _ => rfl
/-- The handles are one more. -/
theorem more (h : PX w0 w b r g cap vh s1 s2 H xb x s t) (own : ∀ k, vh.ownBlock = some k → k < xb) {vh' : Value} {H' : List (Nat × Nat)} (hg : w.grownBy w' vh.ownBlock) (ho : w'.ownsRow (g + 1) 31 2 vh' H'.length (hcl H')) : PX w0 w' b r g cap vh' s1 s2 H' xb x s t := by
  have hu := Upto.of_grown hg
  have h1 := h.hw; have h2 := h.hb; have h3 := h.hr; have h4 := h.hx
  have n1 : ∀ k, xb ≤ k → ¬ (vh.ownBlock = some k) := fun k hk e => by have := own k e; omega
  have n2 : ∀ k, k ≤ g → ¬ (vh.ownBlock = some k) := fun k hk e => by have := (h.had.lt k e).1; omega
  exact ⟨h.slab.upto hu (n2 _ (by omega)), h.ref.upto hu (n2 _ (by omega)) (n2 _ (by omega)), ho, h.bel.trans (hu.below (by have := h.bel.size; omega) (fun k hk => by have := (h.had.lt k hk).1; omega)), h.hw, h.hb, h.hr, h.hx,
    hu.keep h.x0 (n1 _ (by show _ ≤ xb; omega)), hu.keep h.x1 (n1 _ (by show _ ≤ xb; omega)), hu.keep h.x2 (n1 _ (by show _ ≤ xb; omega)), hu.keep h.x3 (n1 _ (by show _ ≤ xb; omega)), hu.keep h.x4 (n1 _ (by show _ ≤ xb; omega)), hu.row h.y (n1 _ (by omega)), h.xok, h.sok, h.tok⟩
end PX

namespace PlayAt
variable {w0 w : World} {b r g cap : Nat} {vh : Value} {st : St} {H : List (Nat × Nat)}
theorem own (h : PlayAt w0 w b r g cap vh st H) : ∀ k, vh.ownBlock = some k → k < w.heap.size := fun k hk => (h.had.lt k hk).2
/-- The handles' shape. -/
theorem hadV (h : PlayAt w0 w b r g cap vh st H) : ∃ a c, vh = .slice a H.length c ∧ (0 < H.length → ∃ q, a = some ⟨q, 0, none⟩) := by
  rcases Nat.eq_zero_or_pos H.length with e | e
  · rcases h.had.2 with ⟨hv, _⟩ | ⟨g, cap, cur, hv, _⟩
    · exact ⟨none, 0, by rw [hv, e], fun h => by omega⟩
    · exact ⟨_, cap, hv, fun h => by omega⟩
  · obtain ⟨g, cap, hv, h1, h2⟩ := own_form h.had e
    exact ⟨_, cap, hv, fun _ => ⟨g, rfl⟩⟩
theorem start (h : PlayAt w0 w b r g cap vh st H) (x : ActV) (hx : x.ok) :
    PX w0 ((w.alloc (.cells #[.int .u8 x.kind, .int .u8 x.at_, .int .i64 x.slot, .int .u32 x.gen, .int .i64 x.raw] 41)).alloc (.cells #[.int .i64 x.slot, .int .u32 x.gen] 31)) b r g cap vh st st H w.heap.size x x.slot x.gen := by
  have h1 := (h.alloc (.cells #[.int .u8 x.kind, .int .u8 x.at_, .int .i64 x.slot, .int .u32 x.gen, .int .i64 x.raw] 41)).alloc (.cells #[.int .i64 x.slot, .int .u32 x.gen] 31)
  exact ⟨h1.slab, h1.ref, h1.had, h1.bel, h.hw, h.hb, h.hr, h.ref.lt, new_21 _ _ _ _ _ 0 _ rfl, new_21 _ _ _ _ _ 1 _ rfl, new_21 _ _ _ _ _ 2 _ rfl, new_21 _ _ _ _ _ 3 _ rfl, new_21 _ _ _ _ _ 4 _ rfl,
    by rw [← World.size_alloc w (.cells #[.int .u8 x.kind, .int .u8 x.at_, .int .i64 x.slot, .int .u32 x.gen, .int .i64 x.raw] 41)]; exact World.rowIs_alloc _ _ _ _ (by intro i hi; match i, hi with | 0, _ => rfl | 1, _ => rfl), hx, hx.2.2.1, hx.2.2.2.1⟩
end PlayAt
theorem PX.hadAt {w0 w : World} {b r g cap q m c : Nat} {s1 s2 : St} {H : List (Nat × Nat)} {xb : Nat} {x : ActV} {s t : Int} (h : PX w0 w b r g cap (.slice (some ⟨q, 0, none⟩) m c) s1 s2 H xb x s t) (j : Nat) (hj : j < H.length) :
    w.cell? ⟨q, j * 2, none⟩ = some (.int .i64 ((H.getD j (0, 0)).1 : Nat)) ∧ w.cell? ⟨q, j * 2 + 1, none⟩ = some (.int .u32 ((H.getD j (0, 0)).2 : Nat)) := by
  have c1 := h.had.cells (g := q) rfl (j * 2) _ (hcl_at H j hj).1
  have c2 := h.had.cells (g := q) rfl (j * 2 + 1) _ (hcl_at H j hj).2
  rw [Addr.add_lit, Nat.zero_add] at c1 c2
  exact ⟨c1, c2⟩
section
variable {w0 w : World} {b r g cap : Nat} {vh : Value} {s1 s2 : St} {H : List (Nat × Nat)} {xb : Nat} {x : ActV} {s t : Int}
theorem XTake (h : PX w0 w b r g cap vh s1 s2 H xb x s t) {v : Value} (hv : takeV s1 = v) : Calls Try.prog 9 #[.pointer (some ⟨b, 0, none⟩)] w (PXO w0 b r g cap vh (takeSt s1) s2 H xb x s t v) :=
  (Take_any w b s1 h.slab).mono fun _ _ ⟨he, hs, hu⟩ => ⟨hv ▸ he, h.turn1 hs hu⟩
/-- The same; and nothing but the reference's row has changed. -/
def PXU (w0 w : World) (b r g cap : Nat) (vh : Value) (s1 s2 : St) (H : List (Nat × Nat)) (xb : Nat) (x : ActV) (s t : Int) (v : Value) (e : Ending) (w' : World) : Prop :=
  e = .returned v ∧ PX w0 w' b r g cap vh s1 s2 H xb x s t ∧ Upto (· = g) w w'
theorem XTakeU (h : PX w0 w b r g cap vh s1 s2 H xb x s t) {v : Value} (hv : takeV s2 = v) : Calls Try.prog 16 #[.pointer (some ⟨r, 0, none⟩)] w (PXU w0 w b r g cap vh s1 (takeSt s2) H xb x s t v) :=
  (Take_ref w r g cap s2 h.ref).mono fun _ _ ⟨he, hs, hu⟩ => ⟨hv ▸ he, h.turn2 hs hu, hu⟩
theorem XGive (h : PX w0 w b r g cap vh s1 s2 H xb x s t) {E : Int} (hE : leaveE s1 s t = E) : Calls Try.prog 11 #[.pointer (some ⟨b, 0, none⟩), .agg #[.int .i64 s, .int .u32 t]] w (PXO w0 b r g cap vh (leaveSt s1 s t 0) s2 H xb x s t (.int .i64 E)) :=
  (Give_any w b s1 s t h.slab h.sok.1 h.sok.2 h.tok.1 h.tok.2).mono fun _ _ ⟨he, hs, hu⟩ => ⟨hE ▸ he, h.turn1 hs hu⟩
theorem XGiveR (h : PX w0 w b r g cap vh s1 s2 H xb x s t) {E : Int} (hE : leaveE s2 s t = E) : Calls Try.prog 17 #[.pointer (some ⟨r, 0, none⟩), .agg #[.int .i64 s, .int .u32 t]] w (PXO w0 b r g cap vh s1 (leaveSt s2 s t 0) H xb x s t (.int .i64 E)) :=
  (Give_ref w r g cap s2 s t h.ref h.sok.1 h.sok.2 h.tok.1 h.tok.2).mono fun _ _ ⟨he, hs, hu⟩ => ⟨hE ▸ he, h.turn2 hs hu⟩
theorem XRet (h : PX w0 w b r g cap vh s1 s2 H xb x s t) {E : Int} (hE : leaveE s1 s t = E) : Calls Try.prog 14 #[.pointer (some ⟨b, 0, none⟩), .agg #[.int .i64 s, .int .u32 t]] w (PXO w0 b r g cap vh (leaveSt s1 s t 2) s2 H xb x s t (.int .i64 E)) :=
  (Retire_any w b s1 s t h.slab h.sok.1 h.sok.2 h.tok.1 h.tok.2).mono fun _ _ ⟨he, hs, hu⟩ => ⟨hE ▸ he, h.turn1 hs hu⟩
theorem XRetR (h : PX w0 w b r g cap vh s1 s2 H xb x s t) {E : Int} (hE : leaveE s2 s t = E) : Calls Try.prog 18 #[.pointer (some ⟨r, 0, none⟩), .agg #[.int .i64 s, .int .u32 t]] w (PXO w0 b r g cap vh s1 (leaveSt s2 s t 2) H xb x s t (.int .i64 E)) :=
  (Retire_ref w r g cap s2 s t h.ref h.sok.1 h.sok.2 h.tok.1 h.tok.2).mono fun _ _ ⟨he, hs, hu⟩ => ⟨hE ▸ he, h.turn2 hs hu⟩
theorem XFree (h : PX w0 w b r g cap vh s1 s2 H xb x s t) (a : Int) (h1 : -9223372036854775808 ≤ a) (h2 : a ≤ 9223372036854775807) {E : Int} (hE : freeE s1 a = E) : Calls Try.prog 13 #[.pointer (some ⟨b, 0, none⟩), .int .i64 a] w (PXO w0 b r g cap vh (freeSt s1 a) s2 H xb x s t (.int .i64 E)) :=
  (Free_any w b s1 a h.slab h1 h2).mono fun _ _ ⟨he, hs, hu⟩ => ⟨hE ▸ he, h.turn1 hs hu⟩
theorem XFreeR (h : PX w0 w b r g cap vh s1 s2 H xb x s t) (a : Int) (h1 : -9223372036854775808 ≤ a) (h2 : a ≤ 9223372036854775807) {E : Int} (hE : freeE s2 a = E) : Calls Try.prog 19 #[.pointer (some ⟨r, 0, none⟩), .int .i64 a] w (PXO w0 b r g cap vh s1 (freeSt s2 a) H xb x s t (.int .i64 E)) :=
  (Free_ref w r g cap s2 a h.ref h1 h2).mono fun _ _ ⟨he, hs, hu⟩ => ⟨hE ▸ he, h.turn2 hs hu⟩
theorem XState (h : PX w0 w b r g cap vh s1 s2 H xb x s t) (a : Int) (h1 : -9223372036854775808 ≤ a) (h2 : a ≤ 9223372036854775807) {E : Int} (hE : stateI s1 a = E) : Calls Try.prog 21 #[.pointer (some ⟨b, 0, none⟩), .int .i64 a] w (PXO w0 b r g cap vh s1 s2 H xb x s t (.int .i64 E)) :=
  (State_any w b s1 a h.slab h1 h2).mono fun _ _ ⟨he, hw⟩ => ⟨hE ▸ he, hw ▸ h⟩
theorem XStateR (h : PX w0 w b r g cap vh s1 s2 H xb x s t) (a : Int) (h1 : -9223372036854775808 ≤ a) (h2 : a ≤ 9223372036854775807) {E : Int} (hE : stateI s2 a = E) : Calls Try.prog 22 #[.pointer (some ⟨r, 0, none⟩), .int .i64 a] w (PXO w0 b r g cap vh s1 s2 H xb x s t (.int .i64 E)) :=
  (State_ref w r g cap s2 a h.ref h1 h2).mono fun _ _ ⟨he, hw⟩ => ⟨hE ▸ he, hw ▸ h⟩
theorem XLive (h : PX w0 w b r g cap vh s1 s2 H xb x s t) (a c : Int) (h1 : -9223372036854775808 ≤ a ∧ a ≤ 9223372036854775807) (h2 : 0 ≤ c ∧ c < 4294967296) {q : Bool} (hq : liveB s1 a c = q) : Calls Try.prog 10 #[.pointer (some ⟨b, 0, none⟩), .agg #[.int .i64 a, .int .u32 c]] w (PXO w0 b r g cap vh s1 s2 H xb x s t (.bool q)) :=
  (Live_any w b s1 a c h.slab h1.1 h1.2 h2.1 h2.2).mono fun _ _ ⟨he, hu⟩ => ⟨hq ▸ he, h.upto hu⟩
theorem XLiveR (h : PX w0 w b r g cap vh s1 s2 H xb x s t) (a c : Int) (h1 : -9223372036854775808 ≤ a ∧ a ≤ 9223372036854775807) (h2 : 0 ≤ c ∧ c < 4294967296) {q : Bool} (hq : liveB s2 a c = q) : Calls Try.prog 23 #[.pointer (some ⟨r, 0, none⟩), .agg #[.int .i64 a, .int .u32 c]] w (PXO w0 b r g cap vh s1 s2 H xb x s t (.bool q)) :=
  (Live_ref w r g cap s2 a c h.ref h1.1 h1.2 h2.1 h2.2).mono fun _ _ ⟨he, hu⟩ => ⟨hq ▸ he, h.upto hu⟩
theorem XCount (h : PX w0 w b r g cap vh s1 s2 H xb x s t) {c0 c1 c2 : Int} (h0 : (cnt s1 0 : Int) = c0) (h1 : (cnt s1 1 : Int) = c1) (h2 : (cnt s1 2 : Int) = c2) : Calls Try.prog 12 #[.pointer (some ⟨b, 0, none⟩)] w (PXO w0 b r g cap vh s1 s2 H xb x s t (.tuple #[.int .i64 c0, .int .i64 c1, .int .i64 c2])) := by
  subst h0 h1 h2
  exact (Count_any w b s1 h.slab).mono fun _ _ ⟨he, hu⟩ => ⟨he, h.upto hu⟩
theorem XCountR (h : PX w0 w b r g cap vh s1 s2 H xb x s t) {c0 c1 c2 : Int} (h0 : (cnt s2 0 : Int) = c0) (h1 : (cnt s2 1 : Int) = c1) (h2 : (cnt s2 2 : Int) = c2) : Calls Try.prog 20 #[.pointer (some ⟨r, 0, none⟩)] w (PXO w0 b r g cap vh s1 s2 H xb x s t (.tuple #[.int .i64 c0, .int .i64 c1, .int .i64 c2])) := by
  subst h0 h1 h2
  exact (Count_ref w r g cap s2 h.ref).mono fun _ _ ⟨he, hu⟩ => ⟨he, h.upto hu⟩
theorem XSize (h : PX w0 w b r g cap vh s1 s2 H xb x s t) {n : Int} (hn : (s1.length : Int) = n) : Calls Try.prog 24 #[.pointer (some ⟨b, 0, none⟩)] w (PXO w0 b r g cap vh s1 s2 H xb x s t (.int .i64 n)) :=
  (Size_any w b s1 h.slab).mono fun _ _ ⟨he, hu⟩ => ⟨hn ▸ he, h.upto hu⟩
theorem takeV_form {st : St} (h : Ok st) : ∃ (p q : Nat) (e : Int), takeV st = .tuple #[.agg #[.int .i64 p, .int .u32 q], .int .i64 e] ∧ p < 256 ∧ q < 4294967296 := by
  unfold takeV
  cases hf : firstFree st with
  | none => exact ⟨0, 0, 8, rfl, by omega, by omega⟩
  | some i => exact ⟨i, genOf st i, 0, rfl, by have := (firstFree_some hf).1; have := h.1; omega, (h.2 i).2⟩
theorem takeSt_length (st : St) : (takeSt st).length = st.length := by unfold takeSt; split <;> simp [turn]
theorem leaveSt_length (st : St) (a c : Int) (z : Nat) : (leaveSt st a c z).length = st.length := by unfold leaveSt; split <;> simp [leave]
theorem freeSt_length (st : St) (a : Int) : (freeSt st a).length = st.length := by unfold freeSt; split <;> simp [turn]
end
end Go.Proofs.Ythfmngpocfofnaa
