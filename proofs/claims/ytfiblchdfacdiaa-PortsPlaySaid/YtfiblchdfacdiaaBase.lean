/- Small laws on worlds that all of this seat's walks use: which blocks a call may have changed. -/
import Derived.WalkKit
import Derived.Lib.Hide
import Derived.Deep.OwnRows
import Derived.Deep.DeepFit
import Derived.Deep.DeepMust
import Derived.Deep.Draws
import Derived.Deep.QuietTactic
import Derived.BigQuiet
import Derived.Deep.RegionWith
import Derived.StillTailTactics
import Derived.Deep.RegionHeld3
import Derived.Deep.DeepCutAuto
import Derived.Deep.LoopGhost
import Derived.Deep.Light
import Derived.WalkLawsBesides
import Derived.WalkSpells
import Derived.Deep.AppendLies
import Derived.IntWalk
import Derived.Deep.CutBlock
import Derived.Deep.DeepMust
import Derived.Laws.OwnMore
namespace Go.Proofs.Ytfiblchdfacdiaa
open Go Go.RowKit Go.Deep

/-- Of the blocks that were there only those in S may have changed. -/
structure Upto (S : Nat → Prop) (w w' : World) : Prop where
  os : w'.os = w.os
  tape : w'.tape = w.tape
  output : w'.output = w.output
  size : w.heap.size ≤ w'.heap.size
  block : ∀ k, k < w.heap.size → ¬ S k → w'.heap[k]? = w.heap[k]?

namespace Upto
variable {S T : Nat → Prop} {w w' w'' : World}
theorem refl (S : Nat → Prop) (w : World) : Upto S w w := ⟨rfl, rfl, rfl, Nat.le_refl _, fun _ _ _ => rfl⟩
theorem trans (h : Upto S w w') (k : Upto S w' w'') : Upto S w w'' :=
  ⟨k.os.trans h.os, k.tape.trans h.tape, k.output.trans h.output, Nat.le_trans h.size k.size,
   fun i hi hs => (k.block i (Nat.lt_of_lt_of_le hi h.size) hs).trans (h.block i hi hs)⟩
theorem mono (h : Upto S w w') (hst : ∀ k, k < w.heap.size → S k → T k) : Upto T w w' := ⟨h.os, h.tape, h.output, h.size, fun k hk ht => h.block k hk (fun hs => ht (hst k hk hs))⟩
/-- Two steps, the second of which may also change blocks that are new behind the first. -/
theorem trans' (h : Upto S w w') (k : Upto T w' w'') (hst : ∀ i, i < w.heap.size → T i → S i) : Upto S w w'' :=
  ⟨k.os.trans h.os, k.tape.trans h.tape, k.output.trans h.output, Nat.le_trans h.size k.size,
   fun i hi hs => (k.block i (Nat.lt_of_lt_of_le hi h.size) (fun ht => hs (hst i hi ht))).trans (h.block i hi hs)⟩
theorem drew (h : Upto S w w') : Upto S w w'.drew := ⟨h.os, h.tape, h.output, h.size, h.block⟩
theorem drewN (h : Upto S w w') (n : Nat) : Upto S w (w'.drewN n) := ⟨h.os, h.tape, h.output, h.size, h.block⟩
theorem alloc (h : Upto S w w') (o : Obj) : Upto S w (w'.alloc o) :=
  h.trans ⟨rfl, rfl, rfl, by simp, fun k hk _ => Below.heap_alloc _ _ _ hk⟩
theorem setCell (h : Upto S w w') (p : Addr) (v : Value) (hp : p.block < w.heap.size → S p.block) : Upto S w (w'.setCell p v) := by
  refine ⟨h.os, h.tape, h.output, by simpa using h.size, fun k hk hs => ?_⟩
  rw [Below.heap_setCell _ _ _ _ (fun e => hs (by rw [e]; exact hp (by omega)))]
  exact h.block k hk hs
theorem setB (h : Upto S w w') {b o : Nat} (hb : S b) (v : Value) : Upto S w (w'.setCell ⟨b, o, none⟩ v) := h.setCell _ _ (fun _ => hb)
theorem setNew (h : Upto S w w') {b o : Nat} (hb : w.heap.size ≤ b) (v : Value) : Upto S w (w'.setCell ⟨b, o, none⟩ v) := h.setCell _ _ (fun (h : b < _) => by omega)
theorem grown (h : Upto S w w') {row : Option Nat} (hg : w'.grownBy w'' row) (hr : ∀ k, row = some k → k < w.heap.size → S k) : Upto S w w'' := by
  refine ⟨hg.os.trans h.os, hg.tape.trans h.tape, hg.output.trans h.output, Nat.le_trans h.size hg.size, fun k hk hs => ?_⟩
  rw [hg.block k (Nat.lt_of_lt_of_le hk h.size) (fun e => hs (hr k e.symm hk))]
  exact h.block k hk hs
theorem of_below (h : Below w.heap.size w w') : Upto S w w' := ⟨h.os, h.tape, h.output, h.size, fun k hk _ => h.block k hk⟩
theorem below {B : Nat} (h : Upto S w w') (hB : B ≤ w.heap.size) (hS : ∀ k, S k → B ≤ k) : Below B w w' :=
  ⟨h.os, h.tape, h.output, h.size, fun k hk => h.block k (by omega) (fun hs => by have := hS k hs; omega)⟩
theorem row {b n : Nat} {t : TypeId} {f : Nat → Value} (h : Upto S w w') (hr : w.rowIs b t n f) (hb : ¬ S b) : w'.rowIs b t n f := hr.of_block (h.block b hr.lt hb)
theorem own {base n size : Nat} {e : TypeId} {v : Value} {xs : List Value} (h : Upto S w w') (ho : w.ownsRow base e size v n xs) (hb : ∀ k, v.ownBlock = some k → ¬ S k) : w'.ownsRow base e size v n xs := by
  refine ⟨ho.1, ?_⟩
  rcases ho.2 with hn | ⟨g, cap, cur, rfl, hbg, hgg, rest⟩
  · exact .inl hn
  · refine .inr ⟨g, cap, cur, rfl, hbg, ?_, rest⟩
    rw [h.block g (Array.getElem?_eq_some_iff.1 hgg).1 (hb g rfl)]
    exact hgg
theorem cell (h : Upto S w w') {p : Addr} (hp : p.block < w.heap.size) (hs : ¬ S p.block) : w'.cell? p = w.cell? p := World.cell?_of_block (w := w) (h.block p.block hp hs)
theorem frozen (h : Upto S w w') {p : Addr} (hp : p.block < w.heap.size) (hs : ¬ S p.block) : w'.frozen? p = w.frozen? p := World.frozen?_of_block (w := w) (h.block p.block hp hs)
theorem keep (h : Upto S w w') {p : Addr} {v : Value} (hc : w.cell? p = some v) (hs : ¬ S p.block) : w'.cell? p = some v :=
  (h.cell (World.block_lt_of_cell? w p hc) hs).trans hc
end Upto

theorem new_1 (w : World) (A : Array Value) (t : TypeId) (i : Nat) (v : Value) (h : A[i]? = some v) : (w.alloc (.cells A t)).cell? ⟨w.heap.size, i, none⟩ = some v := by
  rw [World.cell?_alloc_new, h]
theorem new_21 (w : World) (A B : Array Value) (t u : TypeId) (i : Nat) (v : Value) (h : A[i]? = some v) : ((w.alloc (.cells A t)).alloc (.cells B u)).cell? ⟨w.heap.size, i, none⟩ = some v := by
  rw [World.cell?_alloc_lt _ _ _ (by simp), World.cell?_alloc_new, h]
theorem new_22 (w : World) (A B : Array Value) (t u : TypeId) (i : Nat) (v : Value) (h : B[i]? = some v) : ((w.alloc (.cells A t)).alloc (.cells B u)).cell? ⟨w.heap.size + 1, i, none⟩ = some v := by
  rw [← World.size_alloc w (.cells A t), World.cell?_alloc_new, h]

theorem keep_alloc {w : World} {p : Addr} {v : Value} (h : w.cell? p = some v) (o : Obj) : (w.alloc o).cell? p = some v := by
  rw [World.cell?_alloc_lt _ _ _ (World.block_lt_of_cell? w p h)]; exact h
theorem set2_0 {w : World} {b : Nat} {t : TypeId} {f : Nat → Value} (R : w.rowIs b t 2 f) (x y : Value) : ((w.setCell ⟨b, 0, none⟩ x).setCell ⟨b, 1, none⟩ y).cell? ⟨b, 0, none⟩ = some x :=
  ((R.set 0 x).set 1 y).cell (i := 0) (by omega)
theorem set2_1 {w : World} {b : Nat} {t : TypeId} {f : Nat → Value} (R : w.rowIs b t 2 f) (x y : Value) : ((w.setCell ⟨b, 0, none⟩ x).setCell ⟨b, 1, none⟩ y).cell? ⟨b, 1, none⟩ = some y :=
  ((R.set 0 x).set 1 y).cell (i := 1) (by omega)

/-- An operation whose run is known is carried out. -/
theorem wpList_run {P : Program} {ops : Array Oper} {Q : Exit → Act → World → Prop} {a : Act} {w w' : World} {rest : List Oper} {o : Oper} {v : Value} (hg : o.guard = none)
    (hrun : (execOp a.eval o).run P w = .ok (.value v) w') (hK : wpList P ops Q rest (a.put o.dst v) w') : wpList P ops Q (o :: rest) a w := by
  refine wpList_plain hg fun K hK' => ?_
  unfold Oper.wp
  rw [hrun]
  exact hK' _ _ hK

/-- A contract that leaves the world alone, met in a region that draws its order. -/
theorem quiet_same {P : Program} {f : FuncId} {args : Array Value} {w : World} {n : Nat} {v : Value}
    (h : Calls P f args (w.drewN n) fun e w' => e = .returned v ∧ w.drewN n = w') : Calls P f args (w.drewN n) fun e w'' => e = .returned v ∧ ∃ m, w'' = w.drewN m :=
  h.mono fun _ _ ⟨he, hm⟩ => ⟨he, n, hm.symm⟩

theorem Upto.of_grown {w w' : World} {row : Option Nat} (hg : w.grownBy w' row) : Upto (fun k => row = some k) w w' := (Upto.refl _ w).grown hg (fun _ h _ => h)
theorem own_ne {w : World} {base e size n : Nat} {v : Value} {xs : List Value} (h : w.ownsRow base e size v n xs) {b : Nat} (hb : b < base) : ∀ k, v.ownBlock = some k → ¬ k = b :=
  fun k hk => by have := (h.lt k hk).1; omega
theorem own_form {w : World} {base e size n : Nat} {v : Value} {xs : List Value} (h : w.ownsRow base e size v n xs) (hn : 0 < n) : ∃ g cap, v = .slice (some ⟨g, 0, none⟩) n cap ∧ base ≤ g ∧ g < w.heap.size := by
  rcases h.2 with ⟨_, h'⟩ | ⟨g, cap, cur, h', hb, hg, _⟩
  · omega
  · exact ⟨g, cap, h', hb, (Array.getElem?_eq_some_iff.1 hg).1⟩
/-- Whatever its length: a slice, nil or of a block. -/
theorem own_slice {w : World} {base e size n : Nat} {v : Value} {xs : List Value} (h : w.ownsRow base e size v n xs) : ∃ a c, v = .slice a n c ∧ (0 < n → ∃ g, a = some ⟨g, 0, none⟩) := by
  rcases h.2 with ⟨hv, h'⟩ | ⟨g, cap, cur, h', hb, hg, _⟩
  · exact ⟨none, 0, by rw [hv, h'], fun h => by omega⟩
  · exact ⟨_, cap, h', fun _ => ⟨g, rfl⟩⟩
theorem own_apart {w : World} {base base' e e' s s' n n' : Nat} {v v' : Value} {xs ys : List Value} (h : w.ownsRow base e s v n xs) (h' : w.ownsRow base' e' s' v' n' ys) (hne : e ≠ e') {g : Nat} (hg : v.ownBlock = some g) : v'.ownBlock ≠ some g := by
  intro hg'
  rcases h.2 with ⟨rfl, _⟩ | ⟨g1, cap, cur, rfl, _, h1, _⟩
  · simp [Value.ownBlock] at hg
  · rcases h'.2 with ⟨rfl, _⟩ | ⟨g2, cap2, cur2, rfl, _, h2, _⟩
    · simp [Value.ownBlock] at hg'
    · simp [Value.ownBlock] at hg hg'
      subst hg; subst hg'
      rw [h1] at h2
      simp at h2
      exact hne h2.2
/-- Pairs of numbers, as cells. -/
def pcl (H : List (Nat × Nat)) : List Value := H.flatMap fun p => [.int .i64 (p.1 : Nat), .int .i64 (p.2 : Nat)]
theorem pcl_snoc (H : List (Nat × Nat)) (p : Nat × Nat) : pcl (H ++ [p]) = pcl H ++ [.int .i64 (p.1 : Nat), .int .i64 (p.2 : Nat)] := by simp [pcl]
theorem pcl_length (H : List (Nat × Nat)) : (pcl H).length = H.length * 2 := by
  induction H with
  | nil => rfl
  | cons p l ih => simp only [pcl, List.flatMap_cons, List.length_append, List.length_cons, List.length_nil] at ih ⊢; omega
theorem pcl_at (H : List (Nat × Nat)) (j : Nat) (h : j < H.length) : (pcl H)[j * 2]? = some (.int .i64 ((H.getD j (0, 0)).1 : Nat)) ∧ (pcl H)[j * 2 + 1]? = some (.int .i64 ((H.getD j (0, 0)).2 : Nat)) := by
  induction H generalizing j with
  | nil => simp at h
  | cons p l ih =>
    cases j with
    | zero => exact ⟨rfl, rfl⟩
    | succ j =>
      have := ih j (by simpa using h)
      rw [show (j + 1) * 2 = j * 2 + 2 from by omega]
      simpa [pcl] using this
/-- The j-th pair's two numbers. -/
def p1 (H : List (Nat × Nat)) (j : Nat) : Nat := (H.getD j (0, 0)).1
def p2 (H : List (Nat × Nat)) (j : Nat) : Nat := (H.getD j (0, 0)).2
theorem own_pcl {w : World} {base e q m c : Nat} {H : List (Nat × Nat)} (h : w.ownsRow base e 2 (.slice (some ⟨q, 0, none⟩) m c) m (pcl H)) (j : Nat) (hj : j < H.length) :
    w.cell? ⟨q, j * 2, none⟩ = some (.int .i64 (p1 H j : Nat)) ∧ w.cell? ⟨q, j * 2 + 1, none⟩ = some (.int .i64 (p2 H j : Nat)) := by
  have c1 := h.cells (g := q) rfl (j * 2) _ (pcl_at H j hj).1
  have c2 := h.cells (g := q) rfl (j * 2 + 1) _ (pcl_at H j hj).2
  rw [Addr.add_lit, Nat.zero_add] at c1 c2
  exact ⟨c1, c2⟩
theorem pair_one (k k' : IntKind) (x y : Int) : ∀ u ∈ [Value.int k x, Value.int k' y], u.oneCell' = true := by
  intro u hu; simp at hu; rcases hu with rfl | rfl <;> rfl
theorem one_one (k : IntKind) (x : Int) : ∀ u ∈ [Value.int k x], u.oneCell' = true := by
  intro u hu; simp at hu; subst hu; rfl
theorem one_new (w : World) (x : Value) (t : TypeId) : ∀ j u, [x][j]? = some u → (w.alloc (.cells #[x] t)).cell? ((⟨w.heap.size, 0, none⟩ : Addr).add j) = some u := by
  intro j u hj
  match j, hj with
  | 0, hj => simp at hj; subst hj; rw [Addr.add_lit]; exact new_1 w #[x] t 0 x rfl
theorem pair_new (w : World) (x y : Value) (t : TypeId) : ∀ j u, [x, y][j]? = some u → (w.alloc (.cells #[x, y] t)).cell? ((⟨w.heap.size, 0, none⟩ : Addr).add j) = some u := by
  intro j u hj
  match j, hj with
  | 0, hj => simp at hj; subst hj; rw [Addr.add_lit]; exact new_1 w #[x, y] t 0 x rfl
  | 1, hj => simp at hj; subst hj; rw [Addr.add_lit]; exact new_1 w #[x, y] t 1 y rfl
def NoS (_ : Nat) : Prop := False
def Told (v : Value) (w : World) (e : Ending) (w' : World) : Prop := e = .returned v ∧ Upto NoS w w'
end Go.Proofs.Ytfiblchdfacdiaa
