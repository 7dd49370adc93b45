/- Ports' Take: how it ends behind the loop. -/
import Derived.Test.YtfiblchdfacdiaaTakeB
namespace Go.Proofs.Ytfiblchdfacdiaa
open Go Go.RowKit Go.Deep Go.Maps
attribute [local go_sem] Oper.semAt_some

/-- What Take does where the inner endpoint has no row. -/
def TakePost (w : World) (x rb ob : Nat) (T : List (Rw × Nat)) (W : Ws) (e : Ending) (w' : World) : Prop :=
  (∃ q k pre rest, W.tried = pre ++ q :: rest ∧ fO T W.p W.ip q = none ∧ (∀ y ∈ pre, (fO T W.p W.ip y).isNone = false) ∧ e = .returned (.tuple #[ev W.ip q, .int .i64 0]) ∧ w.heap.size ≤ k ∧ PsAt w' x rb ob (T ++ [(newR W.p W.ip q W.ia W.ib, k)]) ∧ Upto (fun i => i = rb ∨ i = ob) w w') ∨
  ((∀ y ∈ W.tried, (fO T W.p W.ip y).isNone = false) ∧ e = .returned (.tuple #[ev 0 0, .int .i64 8]) ∧ PsAt w' x rb ob T ∧ Upto NoS w w')

theorem put_hr {w : World} {D : Nat} (hDk : w.heap[D]? = some (.deferred (some []))) : ∀ r, some D = some r → D ≤ r ∧ ∃ o : Obj, w.heap[r]? = some o ∧ o.isCells = false :=
  fun r e => by cases e; exact ⟨Nat.le_refl _, _, hDk, rfl⟩
theorem end_marks {R : Ending → World → Prop} {tmps : Array Value} {w : World} {D k m a b : Nat} {e : Int} (hDk : w.heap[D]? = some (.deferred (some [])))
    (hp : tmps.getD 4 undef = .pointer (some ⟨k, 0, none⟩)) (hu : tmps.getD 5 undef = .pointer (some ⟨m, 0, none⟩))
    (h0 : w.cell? ⟨k, 0, none⟩ = some (.int .u32 (a : Nat))) (h1 : w.cell? ⟨k, 1, none⟩ = some (.int .u16 (b : Nat))) (h2 : w.cell? ⟨m, 0, none⟩ = some (.int .i64 e))
    (hR : R (.returned (.tuple #[ev a b, .int .i64 e])) (w.putObj D (.deferred none))) :
    bodyPostM Fence.wide 4 Try.prog Try.f14 R .ret { tmps := tmps, defers := [{ target := .collected D, args := #[] }] } w := by
  have hg := grownBy_putObj' w D (.deferred none)
  have hr := put_hr hDk
  refine ⟨by simp, .inl ⟨_, _, rfl, run_takeDeferred hDk, ?_⟩⟩
  exact ⟨_, res_ee Try.results14 _ hp hu (cell_own hg hr h0) (cell_own hg hr h1) (cell_own hg hr h2), hR⟩

theorem done_end {w w' w6 : World} {x rb ob D : Nat} {T : List (Rw × Nat)} {W : Ws} {tmps : Array Value} (h : PsAt w x rb ob T) (h6 : w.heap.size ≤ w6.heap.size) (hD : w6.heap.size ≤ D) (hB : w.heap.size + 1 + 1 + 1 < w6.heap.size)
    (hJ : TkJ w x rb ob w.heap.size w6.heap.size T W W.tried w') (hDk : w'.heap[D]? = some (.deferred (some [])))
    (hp : tmps.getD 4 undef = .pointer (some ⟨w.heap.size + 1 + 1, 0, none⟩)) (hu : tmps.getD 5 undef = .pointer (some ⟨w.heap.size + 1 + 1 + 1, 0, none⟩)) :
    bodyPostM Fence.wide 4 Try.prog Try.f14 (TakePost w x rb ob T W) .ret { tmps := tmps, defers := [{ target := .collected D, args := #[] }] }
      (((w'.setCell ⟨w.heap.size + 1 + 1, 0, none⟩ (.int .u32 0)).setCell ⟨w.heap.size + 1 + 1, 1, none⟩ (.int .u16 0)).setCell ⟨w.heap.size + 1 + 1 + 1, 0, none⟩ (.int .i64 8)) := by
  obtain ⟨hP, hK, hU, hsz, hno⟩ := hJ
  have hx := h.lt
  have hrb := h.rows.lt
  have hob := h.of_.lt
  have hbk := fun r hr => (h.blk r hr).lt
  obtain ⟨q1, q2, q3⟩ := hK.fin (by omega) 0 0 8
  have ub : Upto (fun k => k = w.heap.size + 1 + 1 ∨ k = w.heap.size + 1 + 1 + 1) w' _ := (((Upto.refl (fun k => k = w.heap.size + 1 + 1 ∨ k = w.heap.size + 1 + 1 + 1) w').setB (b := w.heap.size + 1 + 1) (o := 0) (.inl rfl) (.int .u32 ((0 : Nat) : Int))).setB (b := w.heap.size + 1 + 1) (o := 1) (.inl rfl) (.int .u16 ((0 : Nat) : Int))).setB (b := w.heap.size + 1 + 1 + 1) (o := 0) (.inr rfl) (.int .i64 8)
  have hDk2 := (ub.block D (Array.getElem?_eq_some_iff.1 hDk).1 (by omega)).trans hDk
  have hp2 := hP.gen ub (fun k hk hs => by
    rcases hs with rfl | rfl | rfl | ⟨r, hr, rfl⟩
    · omega
    · omega
    · omega
    · have := hbk r hr; omega)
  have hu2 := fin_upto hU (B3 := w.heap.size + 1 + 1) (B4 := w.heap.size + 1 + 1 + 1) (by omega) (by omega) (.int .u32 ((0 : Nat) : Int)) (.int .u16 ((0 : Nat) : Int)) (.int .i64 8)
  refine end_marks (a := 0) (b := 0) hDk2 hp hu q1 q2 q3 (.inr ⟨hno, rfl, ?_, ?_⟩)
  · exact hp2.own (grownBy_putObj' _ D _) (put_hr hDk2) (by omega) (by omega)
  · exact upto_own hu2 (grownBy_putObj' _ D _) (put_hr hDk2) (by omega)
theorem stop_end {w w' w6 : World} {x rb ob D : Nat} {T : List (Rw × Nat)} {W : Ws} {tmps : Array Value} {pre : List Nat} (h : PsAt w x rb ob T) (h6 : w.heap.size ≤ w6.heap.size) (hD : w6.heap.size ≤ D) (hpre : pre <+: W.tried)
    (hX : TkX w x rb ob w.heap.size T W pre w') (hDk : w'.heap[D]? = some (.deferred (some [])))
    (hp : tmps.getD 4 undef = .pointer (some ⟨w.heap.size + 1 + 1, 0, none⟩)) (hu : tmps.getD 5 undef = .pointer (some ⟨w.heap.size + 1 + 1 + 1, 0, none⟩)) :
    bodyPostM Fence.wide 4 Try.prog Try.f14 (TakePost w x rb ob T W) .ret { tmps := tmps, defers := [{ target := .collected D, args := #[] }] } w' := by
  obtain ⟨⟨q, k, pre0, rfl, hf, hno, hP, hk, f1, f2, f3⟩, hU⟩ := hX
  have hrb := h.rows.lt
  have hob := h.of_.lt
  obtain ⟨rest, hrest⟩ := hpre
  refine end_marks hDk hp hu f1 f2 f3 (.inl ⟨q, k, pre0, rest, by rw [← hrest]; simp, hf, hno, rfl, hk, ?_, ?_⟩)
  · exact hP.own (grownBy_putObj' _ D _) (put_hr hDk) (by omega) (by omega)
  · exact upto_own hU (grownBy_putObj' _ D _) (put_hr hDk) (by omega)
end Go.Proofs.Ytfiblchdfacdiaa
