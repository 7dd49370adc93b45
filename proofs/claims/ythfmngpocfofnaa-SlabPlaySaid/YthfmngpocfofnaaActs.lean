/- Acts that came in: how they lie. And what the law SlabOnce keeps in memory. -/
import Derived.Test.YthfmngpocfofnaaOncePlain
import Derived.Test.YthfmngpocfofnaaAllWalk
namespace Go.Proofs.Ythfmngpocfofnaa
open Go Go.RowKit Go.Deep Md

/-- One act: Kind, At, H.Slot, H.Gen, Raw. -/
structure ActV where
  kind : Nat
  at_ : Nat
  slot : Int
  gen : Int
  raw : Int
def ActV.ok (x : ActV) : Prop := x.kind < 256 ∧ x.at_ < 256 ∧ (-9223372036854775808 ≤ x.slot ∧ x.slot ≤ 9223372036854775807) ∧ (0 ≤ x.gen ∧ x.gen < 4294967296) ∧ (-9223372036854775808 ≤ x.raw ∧ x.raw ≤ 9223372036854775807)
def ActAt (w : World) (b o : Nat) (x : ActV) : Prop :=
  w.cell? ⟨b, o, none⟩ = some (.int .u8 (x.kind : Nat)) ∧ w.cell? ⟨b, o + 1, none⟩ = some (.int .u8 (x.at_ : Nat)) ∧ w.cell? ⟨b, o + 2, none⟩ = some (.int .i64 x.slot) ∧
  w.cell? ⟨b, o + 3, none⟩ = some (.int .u32 x.gen) ∧ w.cell? ⟨b, o + 4, none⟩ = some (.int .i64 x.raw)
def ActsAt (w : World) (a : Option Addr) (len : Nat) (z : Nat → ActV) : Prop :=
  ∀ k, k < len → (z k).ok ∧ ∃ b off, a = some ⟨b, off, none⟩ ∧ b < w.heap.size ∧ ActAt w b (off + k * 5) (z k)
theorem ActAt.below {B : Nat} {w w' : World} {b o : Nat} {x : ActV} (h : ActAt w b o x) (hb : Below B w w') (hlt : b < B) : ActAt w' b o x :=
  ⟨(hb.cell (p := ⟨b, _, none⟩) hlt).trans h.1, (hb.cell (p := ⟨b, _, none⟩) hlt).trans h.2.1, (hb.cell (p := ⟨b, _, none⟩) hlt).trans h.2.2.1, (hb.cell (p := ⟨b, _, none⟩) hlt).trans h.2.2.2.1, (hb.cell (p := ⟨b, _, none⟩) hlt).trans h.2.2.2.2⟩

/-- The cells of handles. -/
def hcl (H : List (Nat × Nat)) : List Value := H.flatMap fun p => [.int .i64 (p.1 : Nat), .int .u32 (p.2 : Nat)]
theorem hcl_snoc (H : List (Nat × Nat)) (p : Nat × Nat) : hcl (H ++ [p]) = hcl H ++ [.int .i64 (p.1 : Nat), .int .u32 (p.2 : Nat)] := by simp [hcl]
theorem hcl_length (H : List (Nat × Nat)) : (hcl H).length = H.length * 2 := by
  induction H with
  | nil => rfl
  | cons p l ih => simp only [hcl, List.flatMap_cons, List.length_append, List.length_cons, List.length_nil] at ih ⊢; omega
theorem hcl_at (H : List (Nat × Nat)) (j : Nat) (h : j < H.length) : (hcl H)[j * 2]? = some (.int .i64 ((H.getD j (0, 0)).1 : Nat)) ∧ (hcl H)[j * 2 + 1]? = some (.int .u32 ((H.getD j (0, 0)).2 : Nat)) := by
  induction H generalizing j with
  | nil => simp at h
  | cons p l ih =>
    cases j with
    | zero => exact ⟨rfl, rfl⟩
    | succ j =>
      have := ih j (by simpa using h)
      rw [show (j + 1) * 2 = j * 2 + 2 from by omega]
      simpa [hcl] using this

/-- The law's memory: the slab; the handles; which are over; which slots are gone. -/
structure OnceAt (w0 w : World) (b p n : Nat) (vh vo : Value) (st : St) (H : List (Nat × Nat)) (O : List Bool) (G : Nat → Bool) : Prop where
  slab : SlabAt w b st
  had : w.ownsRow (p + 1) 31 2 vh H.length (hcl H)
  over : w.ownsRow (p + 1) 4 1 vo O.length (O.map Value.bool)
  gone : w.rowIs p 4 n (fun j => .bool (G j))
  bel : Below w0.heap.size w0 w
  hb : b < p
  hw : w0.heap.size ≤ b

theorem own_apart {w : World} {base base' e e' s s' n n' : Nat} {v v' : Value} {xs ys : List Value} (h : w.ownsRow base e s v n xs) (h' : w.ownsRow base' e' s' v' n' ys) (hne : e ≠ e') {g : Nat} (hg : v.ownBlock = some g) : v'.ownBlock ≠ some g := by
  intro hg'
  rcases h.2 with ⟨rfl, _⟩ | ⟨g1, cap, cur, rfl, _, h1, _⟩
  · simp [Value.ownBlock] at hg
  · rcases h'.2 with ⟨rfl, _⟩ | ⟨g2, cap2, cur2, rfl, _, h2, _⟩
    · simp [Value.ownBlock] at hg'
    · simp [Value.ownBlock] at hg hg'
      subst hg; subst hg'
      rw [h1] at h2
      simp at h2
      exact hne h2.2

namespace OnceAt
variable {w0 w w' : World} {b p n : Nat} {vh vo : Value} {st st' : St} {H : List (Nat × Nat)} {O : List Bool} {G : Nat → Bool}
theorem upto (h : OnceAt w0 w b p n vh vo st H O G) (hu : Upto NoS w w') : OnceAt w0 w' b p n vh vo st H O G :=
  ⟨h.slab.upto hu id, hu.own h.had (fun _ _ => id), hu.own h.over (fun _ _ => id), hu.row h.gone id, h.bel.trans (hu.below (by have := h.bel.size; omega) (fun _ h => h.elim)), h.hb, h.hw⟩
theorem turned (h : OnceAt w0 w b p n vh vo st H O G) (hs : SlabAt w' b st') (hu : Upto (· = b) w w') : OnceAt w0 w' b p n vh vo st' H O G :=
  ⟨hs, hu.own h.had (own_ne h.had (by have := h.hb; omega)), hu.own h.over (own_ne h.over (by have := h.hb; omega)), hu.row h.gone (fun e => by have := h.hb; omega),
   h.bel.trans (hu.below (by have := h.bel.size; omega) (fun k hk => by rw [hk]; exact h.hw)), h.hb, h.hw⟩
theorem alloc (h : OnceAt w0 w b p n vh vo st H O G) (o : Obj) : OnceAt w0 (w.alloc o) b p n vh vo st H O G := h.upto ((Upto.refl _ _).alloc o)
theorem drew (h : OnceAt w0 w b p n vh vo st H O G) : OnceAt w0 w.drew b p n vh vo st H O G := h.upto (Upto.refl _ _).drew
theorem drewN (h : OnceAt w0 w b p n vh vo st H O G) (k : Nat) : OnceAt w0 (w.drewN k) b p n vh vo st H O G := h.upto ((Upto.refl _ _).drewN k)
/-- The handles' shape. -/
theorem hadV (h : OnceAt w0 w b p n vh vo st H O G) : ∃ a c, vh = .slice a H.length c ∧ (0 < H.length → ∃ g, a = some ⟨g, 0, none⟩ ∧ p < g ∧ ∀ j, j < H.length → w.cell? ⟨g, j * 2, none⟩ = some (.int .i64 ((H.getD j (0, 0)).1 : Nat)) ∧ w.cell? ⟨g, j * 2 + 1, none⟩ = some (.int .u32 ((H.getD j (0, 0)).2 : Nat))) := by
  rcases Nat.eq_zero_or_pos H.length with e | e
  · rcases h.had.2 with ⟨hv, _⟩ | ⟨g, cap, cur, hv, _⟩
    · exact ⟨none, 0, by rw [hv, e], fun h => by omega⟩
    · exact ⟨_, cap, hv, fun h => by omega⟩
  · obtain ⟨g, cap, hv, h1, h2⟩ := own_form h.had e
    refine ⟨_, cap, hv, fun _ => ⟨g, rfl, by omega, fun j hj => ?_⟩⟩
    have hc := h.had.cells (g := g) (by rw [hv]; rfl)
    have c1 := hc (j * 2) _ (hcl_at H j hj).1
    have c2 := hc (j * 2 + 1) _ (hcl_at H j hj).2
    rw [Addr.add_lit, Nat.zero_add] at c1 c2
    exact ⟨c1, c2⟩
theorem overV (h : OnceAt w0 w b p n vh vo st H O G) : ∃ a c, vo = .slice a O.length c ∧ (0 < O.length → ∃ g, a = some ⟨g, 0, none⟩ ∧ p < g ∧ (∀ j, w.frozen? ⟨g, j, none⟩ = false) ∧ ∀ j, j < O.length → w.cell? ⟨g, j, none⟩ = some (.bool (O.getD j true))) := by
  rcases Nat.eq_zero_or_pos O.length with e | e
  · rcases h.over.2 with ⟨hv, _⟩ | ⟨g, cap, cur, hv, _⟩
    · exact ⟨none, 0, by rw [hv, e], fun h => by omega⟩
    · exact ⟨_, cap, hv, fun h => by omega⟩
  · obtain ⟨g, cap, hv, h1, h2⟩ := own_form h.over e
    have ho := h.over
    rw [hv] at ho
    refine ⟨_, cap, hv, fun _ => ⟨g, rfl, by omega, ho.frozenAt, fun j hj => ?_⟩⟩
    have hc := h.over.cells (g := g) (by rw [hv]; rfl)
    have c1 := hc j (.bool (O.getD j true)) (by simp [hj])
    rw [Addr.add_lit, Nat.zero_add] at c1
    exact c1
theorem hadAt {g m c : Nat} (h : OnceAt w0 w b p n (.slice (some ⟨g, 0, none⟩) m c) vo st H O G) (j : Nat) (hj : j < H.length) :
    w.cell? ⟨g, j * 2, none⟩ = some (.int .i64 ((H.getD j (0, 0)).1 : Nat)) ∧ w.cell? ⟨g, j * 2 + 1, none⟩ = some (.int .u32 ((H.getD j (0, 0)).2 : Nat)) := by
  have c1 := h.had.cells (g := g) rfl (j * 2) _ (hcl_at H j hj).1
  have c2 := h.had.cells (g := g) rfl (j * 2 + 1) _ (hcl_at H j hj).2
  rw [Addr.add_lit, Nat.zero_add] at c1 c2
  exact ⟨c1, c2⟩
theorem overAt {g m c : Nat} (h : OnceAt w0 w b p n vh (.slice (some ⟨g, 0, none⟩) m c) st H O G) (j : Nat) (hj : j < O.length) :
    w.cell? ⟨g, j, none⟩ = some (.bool (O.getD j true)) := by
  have c1 := h.over.cells (g := g) rfl j (.bool (O.getD j true)) (by simp [hj])
  rw [Addr.add_lit, Nat.zero_add] at c1
  exact c1
/-- One is over now. -/
theorem setOver (h : OnceAt w0 w b p n vh vo st H O G) {g c : Nat} (hv : vo = .slice (some ⟨g, 0, none⟩) O.length c) (hg : p < g) (k : Nat) :
    OnceAt w0 (w.setCell ⟨g, k, none⟩ (.bool true)) b p n vh vo st H (O.set k true) G := by
  have ho := h.over
  rw [hv] at ho
  obtain ⟨s1, s2⟩ := ho.stored k (.bool true)
  have hu := Upto.of_grown s2
  have hb := h.hb
  refine ⟨h.slab.upto hu (by simp; omega), hu.own h.had (fun j hj e => ?_), ?_, hu.row h.gone (by simp; omega), h.bel.setCell (p := ⟨g, k, none⟩) (by have := h.hw; show _ ≤ g; omega) _, h.hb, h.hw⟩
  · have := own_apart h.had h.over (by decide) hj
    rw [hv] at this
    exact this e
  · rw [hv, List.length_set, List.map_set]; exact s1
/-- Which slots are gone now. -/
theorem setGone (h : OnceAt w0 w b p n vh vo st H O G) (k : Nat) (q : Bool) :
    OnceAt w0 (w.setCell ⟨p, k, none⟩ (.bool q)) b p n vh vo st H O (fun j => if j = k then q else G j) := by
  have hu : Upto (· = p) w (w.setCell ⟨p, k, none⟩ (.bool q)) := (Upto.refl (fun x => x = p) w).setB rfl _
  have hb := h.hb
  refine ⟨h.slab.upto hu (by omega), hu.own h.had (own_ne h.had (by omega)), hu.own h.over (own_ne h.over (by omega)), (h.gone.set k _).congr fun j _ => ?_, h.bel.setCell (p := ⟨p, k, none⟩) (by have := h.hw; show _ ≤ p; omega) _, h.hb, h.hw⟩
  by_cases e : j = k
  · rw [if_pos e, if_pos e]
  · rw [if_neg e, if_neg e]
theorem overF {g m c : Nat} (h : OnceAt w0 w b p n vh (.slice (some ⟨g, 0, none⟩) m c) st H O G) (hm : m = O.length) (j : Nat) : w.frozen? ⟨g, j, none⟩ = false := by
  subst hm; exact h.over.frozenAt j
theorem congrG (h : OnceAt w0 w b p n vh vo st H O G) {G' : Nat → Bool} (e : ∀ j, j < n → G j = G' j) : OnceAt w0 w b p n vh vo st H O G' :=
  ⟨h.slab, h.had, h.over, h.gone.congr fun j hj => by rw [e j hj], h.bel, h.hb, h.hw⟩
end OnceAt

section
variable {w0 w : World} {b p n : Nat} {vh vo : Value} {st : St} {H : List (Nat × Nat)} {O : List Bool} {G : Nat → Bool}
/-- What an act leaves, in the law's own words. -/
def Once (w0 : World) (b p n : Nat) (vh vo : Value) (st : St) (H : List (Nat × Nat)) (O : List Bool) (G : Nat → Bool) (v : Value) (e : Ending) (w' : World) : Prop :=
  e = .returned v ∧ OnceAt w0 w' b p n vh vo st H O G

theorem OTake (h : OnceAt w0 w b p n vh vo st H O G) : Calls Try.prog 9 #[.pointer (some ⟨b, 0, none⟩)] w (Once w0 b p n vh vo (takeSt st) H O G (takeV st)) :=
  (Take_any w b st h.slab).mono fun _ _ ⟨he, hs, hu⟩ => ⟨he, h.turned hs hu⟩
theorem OTake_some (h : OnceAt w0 w b p n vh vo st H O G) {k : Nat} (hf : firstFree st = some k) :
    Calls Try.prog 9 #[.pointer (some ⟨b, 0, none⟩)] w (Once w0 b p n vh vo (turn st k 1) H O G (.tuple #[hv k (genOf st k), .int .i64 0])) := by
  have := OTake h
  rw [takeSt, takeV, hf] at this
  exact this
theorem OTake_none (h : OnceAt w0 w b p n vh vo st H O G) (hf : firstFree st = none) :
    Calls Try.prog 9 #[.pointer (some ⟨b, 0, none⟩)] w (Once w0 b p n vh vo st H O G (.tuple #[hv 0 0, .int .i64 8])) := by
  have := OTake h
  rw [takeSt, takeV, hf] at this
  exact this
theorem OCount (h : OnceAt w0 w b p n vh vo st H O G) :
    Calls Try.prog 12 #[.pointer (some ⟨b, 0, none⟩)] w (Once w0 b p n vh vo st H O G (.tuple #[.int .i64 (cnt st 0), .int .i64 (cnt st 1), .int .i64 (cnt st 2)])) :=
  (Count_any w b st h.slab).mono fun _ _ ⟨he, hu⟩ => ⟨he, h.upto hu⟩
theorem OCount0 (h : OnceAt w0 w b p n vh vo st H O G) (h0 : cnt st 0 = 0) :
    Calls Try.prog 12 #[.pointer (some ⟨b, 0, none⟩)] w (Once w0 b p n vh vo st H O G (.tuple #[.int .i64 0, .int .i64 (cnt st 1), .int .i64 (cnt st 2)])) := by
  have := OCount h
  rw [h0] at this
  exact this
theorem OFree (h : OnceAt w0 w b p n vh vo st H O G) (s : Nat) (hs : s < 256) :
    Calls Try.prog 13 #[.pointer (some ⟨b, 0, none⟩), .int .i64 s] w (Once w0 b p n vh vo (freeSt st s) H O G (.int .i64 (freeE st s))) :=
  (Free_any w b st s h.slab (by omega) (by omega)).mono fun _ _ ⟨he, hs, hu⟩ => ⟨he, h.turned hs hu⟩
theorem OGive (h : OnceAt w0 w b p n vh vo st H O G) (s g : Nat) (hs : s < 256) (hg : g < 4294967296) :
    Calls Try.prog 11 #[.pointer (some ⟨b, 0, none⟩), .agg #[.int .i64 s, .int .u32 g]] w (Once w0 b p n vh vo (leaveSt st s g 0) H O G (.int .i64 (leaveE st s g))) :=
  (Give_any w b st s g h.slab (by omega) (by omega) (by omega) (by omega)).mono fun _ _ ⟨he, hs, hu⟩ => ⟨he, h.turned hs hu⟩
theorem OFree_to (h : OnceAt w0 w b p n vh vo st H O G) (s : Nat) (hs : s < 256) {E : Int} (hE : freeE st s = E) :
    Calls Try.prog 13 #[.pointer (some ⟨b, 0, none⟩), .int .i64 s] w (Once w0 b p n vh vo (freeSt st s) H O G (.int .i64 E)) := hE ▸ OFree h s hs
theorem OGive_to (h : OnceAt w0 w b p n vh vo st H O G) (s g : Nat) (hs : s < 256) (hg : g < 4294967296) {E : Int} (hE : leaveE st s g = E) :
    Calls Try.prog 11 #[.pointer (some ⟨b, 0, none⟩), .agg #[.int .i64 s, .int .u32 g]] w (Once w0 b p n vh vo (leaveSt st s g 0) H O G (.int .i64 E)) := hE ▸ OGive h s g hs hg
theorem ORetire (h : OnceAt w0 w b p n vh vo st H O G) (s g : Nat) (hs : s < 256) (hg : g < 4294967296) :
    Calls Try.prog 14 #[.pointer (some ⟨b, 0, none⟩), .agg #[.int .i64 s, .int .u32 g]] w (Once w0 b p n vh vo (leaveSt st s g 2) H O G (.int .i64 (leaveE st s g))) :=
  (Retire_any w b st s g h.slab (by omega) (by omega) (by omega) (by omega)).mono fun _ _ ⟨he, hs, hu⟩ => ⟨he, h.turned hs hu⟩
theorem ORetire_to (h : OnceAt w0 w b p n vh vo st H O G) (s g : Nat) (hs : s < 256) (hg : g < 4294967296) {E : Int} (hE : leaveE st s g = E) :
    Calls Try.prog 14 #[.pointer (some ⟨b, 0, none⟩), .agg #[.int .i64 s, .int .u32 g]] w (Once w0 b p n vh vo (leaveSt st s g 2) H O G (.int .i64 E)) := hE ▸ ORetire h s g hs hg
theorem OLive (h : OnceAt w0 w b p n vh vo st H O G) (s g : Nat) (q : Bool) (hs : s < 256) (hg : g < 4294967296) (hq : liveB st s g = q) :
    Calls Try.prog 10 #[.pointer (some ⟨b, 0, none⟩), .agg #[.int .i64 s, .int .u32 g]] w (fun e w' => e = .returned (.bool q) ∧ Upto NoS w w') :=
  hq ▸ Live_any w b st s g h.slab (by omega) (by omega) (by omega) (by omega)
end
end Go.Proofs.Ythfmngpocfofnaa
