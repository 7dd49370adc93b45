/- A slab's New, walked. -/
import Derived.Test.YthfmngpocfofnaaWalkE
namespace Go.Proofs.Ythfmngpocfofnaa
open Go Go.RowKit Go.Deep Md

def cells0 (n : Int) : Array Value := ((List.replicate 256 [Value.int .i64 0, Value.int .u32 0]).flatten ++ [Value.int .i64 n, Value.int .i64 0, Value.int .i64 0, Value.int .i64 0]).toArray

theorem build_slab (n : Int) (w : World) : (Instr.build 57 #[(1, .int .i64 n)]).run Try.prog w = .ok (.agg (cells0 n)) w := by kernel_rfl
theorem box_slab (n : Int) (w : World) : (Instr.box 57 (.agg (cells0 n))).run Try.prog w = .ok (.pointer (some ⟨w.heap.size, 0, none⟩)) (w.alloc (.cells (cells0 n) 57)) := by kernel_rfl

/-- The cells while New goes over them: k generations are laid; 'c' is how many are free. -/
def newF (n c : Int) (k i : Nat) : Value :=
  if i < 512 then (if i % 2 = 0 then .int .i64 0 else .int .u32 (if i / 2 < k then 1 else 0)) else if i = 512 then .int .i64 n else if i = 513 then .int .i64 c else .int .i64 0
theorem cells0_eq (n : Int) : (cells0 n).toList = (List.range 516).map (newF n 0 0) := by kernel_rfl
theorem cells0_at (n : Int) (i : Nat) (h : i < 516) : (cells0 n)[i]? = some (newF n 0 0 i) := by
  rw [← Array.getElem?_toList, cells0_eq, List.getElem?_map, List.getElem?_range h]; rfl
theorem cells0_size (n : Int) : (cells0 n).size = 516 := by kernel_rfl
theorem cells0_513 (n : Int) : (cells0 n)[513]? = some (.int .i64 0) := by kernel_rfl

def Made (n : Nat) (w : World) (e : Ending) (w' : World) : Prop := e = .returned (.tuple #[.pointer (some ⟨w.heap.size, 0, none⟩), .int .i64 0]) ∧ SlabAt w' w.heap.size (fresh n) ∧ Upto NoS w w'

theorem newF_all (n : Nat) (i : Nat) (hi : i < 516) : newF n n 256 i = slabF (fresh n) i := by
  unfold newF slabF
  by_cases e4 : i < 512
  · rw [if_pos e4, if_pos e4]
    have e1 : stateOf (fresh n) (i / 2) = 0 := by by_cases h : i / 2 < n <;> simp [stateOf, fresh, h]
    have e2 : genOf (fresh n) (i / 2) = 1 := by by_cases h : i / 2 < n <;> simp [genOf, fresh, h]
    rw [e1, e2, if_pos (show i / 2 < 256 by omega)]; rfl
  · rw [if_neg e4, if_neg e4]
    by_cases e5 : i = 512
    · rw [if_pos e5, if_pos e5]; simp [fresh]
    · rw [if_neg e5, if_neg e5]
      have h3 : i = 513 ∨ i = 514 ∨ i = 515 := by omega
      rcases h3 with rfl | rfl | rfl
      · rw [if_pos rfl]; simp [cnt, fresh, List.countP_replicate]
      · rw [if_neg (by omega)]; simp [cnt, fresh, List.countP_replicate]
      · rw [if_neg (by omega)]; simp [cnt, fresh, List.countP_replicate]

section
variable {ops : Array Oper} {Q : Exit → Act → World → Prop} {a : Act} {w : World} {rest : List Oper} {o : Oper}
theorem wp_build_slab (x : Operand) (n : Int) (hg : o.guard = none) (hop : o.op = .build 57 #[(1, x)]) (hx : a.eval x = .int .i64 n)
    (hK : wpList Try.prog ops Q rest (a.put o.dst (.agg (cells0 n))) w) : wpList Try.prog ops Q (o :: rest) a w := by
  refine wpList_run hg ?_ hK
  have := build_slab n w
  simp only [execOp, hop, List.map_toArray, List.map_cons, List.map_nil, hx, Sem.run_bind, this, Result.andThen_ok, Sem.run_pure]
theorem wp_box_slab (x : Operand) (n : Int) (hg : o.guard = none) (hop : o.op = .box 57 x) (hx : a.eval x = .agg (cells0 n))
    (hK : wpList Try.prog ops Q rest (a.put o.dst (.pointer (some ⟨w.heap.size, 0, none⟩))) (w.alloc (.cells (cells0 n) 57))) : wpList Try.prog ops Q (o :: rest) a w := by
  refine wpList_run hg ?_ hK
  have := box_slab n w
  simp only [execOp, hop, hx, Sem.run_bind, this, Result.andThen_ok, Sem.run_pure]
end

set_option maxRecDepth 100000 in
theorem New_ok (w : World) (n : Nat) (h1 : 1 ≤ n) (h2 : n ≤ 256) : Calls Try.prog 8 #[.int .i64 n] w (Made n w) := by
  have R0 : (w.alloc (.cells (cells0 n) 57)).rowIs w.heap.size 57 516 (newF n 0 0) := ⟨_, heap_alloc_new w _, cells0_size n, fun i hi => cells0_at n i hi⟩
  have U0 : Upto NoS w (w.alloc (.cells (cells0 n) 57)) := (Upto.refl _ w).alloc _
  go_enter Try.func8, Try.ntmps8
  go_wp2_with (first
    | (with_reducible refine wp_build_slab (.tmp 12) n rfl rfl rfl ?_)
    | (with_reducible refine wp_box_slab (.tmp 13) n rfl rfl rfl ?_; generalize hW : w.alloc (.cells (cells0 n) 57) = W1 at R0 U0 ⊢; clear hW; have r0 := R0.cell (i := 513) (by omega); have f0 := R0.frozen))
  go_loopw [20] (fun v wr => ∃ k : Nat, k ≤ 256 ∧ v = .int .i64 k ∧ wr.rowIs w.heap.size 57 516 (newF n n k) ∧ Upto NoS w wr)
    (fun v _ => 256 - (intOf v).toNat)
  case atStart =>
    refine ⟨0, by omega, rfl, (R0.set 513 (.int .i64 n)).congr fun i hi => ?_, U0.setNew (Nat.le_refl _) _⟩
    unfold newF
    by_cases e : i = 513
    · subst e; simp
    · rw [if_neg e, if_neg e, if_neg e]
  case round =>
    obtain ⟨k, hk, rfl, hR, hU⟩ := hrel
    by_cases hlt : k < 256
    · obtain ⟨v1, r1⟩ : ∃ v, wr.cell? ⟨w.heap.size, k * 2 + 1, none⟩ = some v := ⟨_, hR.cell (by omega)⟩
      have f1 := hR.frozen
      go_wp2
      go_roundw
      case rel =>
        refine ⟨k + 1, by omega, by go_num, (hR.set (k * 2 + 1) (.int .u32 1)).congr fun i hi => ?_, hU.setNew (Nat.le_refl _) _⟩
        unfold newF
        by_cases e : i = k * 2 + 1
        · subst e
          rw [if_pos rfl, if_pos (by omega), if_neg (by omega), if_pos (by omega)]
        · rw [if_neg e]
          by_cases e4 : i < 512
          · rw [if_pos e4, if_pos e4]
            by_cases e5 : i % 2 = 0
            · rw [if_pos e5, if_pos e5]
            · rw [if_neg e5, if_neg e5]
              by_cases e6 : i / 2 < k
              · rw [if_pos e6, if_pos (by omega)]
              · rw [if_neg e6, if_neg (by omega)]
          · rw [if_neg e4, if_neg e4]
      case measure => simp [intOf]; omega
    · obtain rfl : k = 256 := by omega
      go_wp2
      go_ret2
      exact ⟨rfl, ⟨hR.congr fun i hi => newF_all n i hi, Ok.fresh h2, by simp [fresh]; omega⟩, hU⟩

theorem New_err (w : World) (n : Int) (h : n < 1 ∨ 256 < n) : Calls Try.prog 8 #[.int .i64 n] w fun e w' => e = .returned (.tuple #[.pointer none, .int .i64 2]) ∧ w = w' := by
  rcases h with h | h
  · go_enter Try.func8, Try.ntmps8
    go_wp2
    go_ret2
    exact ⟨rfl, rfl⟩
  · have h' : ¬ n < 1 := by omega
    go_enter Try.func8, Try.ntmps8
    go_wp2
    go_ret2
    exact ⟨rfl, rfl⟩
end Go.Proofs.Ythfmngpocfofnaa
