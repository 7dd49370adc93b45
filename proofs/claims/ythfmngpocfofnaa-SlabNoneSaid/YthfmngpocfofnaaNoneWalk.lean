/- What a slab that is none answers; and SlabNone, walked. -/
import Derived.Test.YthfmngpocfofnaaSlotted
namespace Go.Proofs.Ythfmngpocfofnaa
open Go Go.RowKit Go.Deep Md

/-- The pointer leads to no slab: nil, or one of size 0. -/
def NP (w : World) (v : Option Addr) : Prop := v = none ∨ ∃ b, v = some ⟨b, 0, none⟩ ∧ b < w.heap.size ∧ w.cell? ⟨b, 512, none⟩ = some (.int .i64 0)
theorem NP.upto {w w' : World} {v : Option Addr} (h : NP w v) (hu : Upto NoS w w') : NP w' v := by
  rcases h with h | ⟨b, hv, hb, hc⟩
  · exact .inl h
  · have hsz := (hu.below (B := w.heap.size) (Nat.le_refl _) (fun _ h => h.elim)).size
    exact .inr ⟨b, hv, by omega, hu.keep hc id⟩
theorem NP.alloc {w : World} {v : Option Addr} (h : NP w v) (o : Obj) : NP (w.alloc o) v := h.upto ((Upto.refl _ _).alloc o)

theorem none_np (w : World) (v : Option Addr) (h : NP w v) : Calls Try.prog 25 #[.pointer v] w fun e w' => e = .returned (.bool true) ∧ w = w' := by
  rcases h with rfl | ⟨b, rfl, _, hc⟩
  · exact none_nil w
  · exact none_zero w b hc

theorem State_np (w : World) (v : Option Addr) (slot : Int) (h : NP w v) : Calls Try.prog 21 #[.pointer v, .int .i64 slot] w fun e w' => e = .returned (.int .i64 (-1)) ∧ w = w' := by
  go_enter Try.func21, Try.ntmps21
  go_wp2_with (go_at_call 25; refine (none_np _ _ h).mono ?_; rintro e w' ⟨rfl, rfl⟩)
  go_ret
  exact ⟨rfl, rfl⟩

theorem Live_np (w : World) (v : Option Addr) (slot gen : Int) (h : NP w v) : Calls Try.prog 10 #[.pointer v, hv slot gen] w (BoolAt false w) := by
  have h' := h.alloc (.cells #[.int .i64 slot, .int .u32 gen] 31)
  clear h
  go_enter Try.func10, Try.ntmps10
  go_wp2_with fail
  go_quiet ((go_at_call 21; exact quiet_same (State_np _ v slot (h'.upto ((Upto.refl _ _).drewN _)))))
  go_wp2
  go_ret
  exact ⟨rfl, ((Upto.refl NoS w).alloc _).drewN _⟩

theorem leave_np (w : World) (v : Option Addr) (slot gen s : Int) (h : NP w v) : Calls Try.prog 27 #[.pointer v, hv slot gen, .int .i64 s] w (Told (.int .i64 1) w) := by
  have h' := (h.alloc (.cells #[.pointer v] 24)).alloc (.cells #[.int .i64 slot, .int .u32 gen] 31)
  have hU : Upto NoS w ((w.alloc (.cells #[.pointer v] 24)).alloc (.cells #[.int .i64 slot, .int .u32 gen] 31)) := ((Upto.refl _ w).alloc _).alloc _
  clear h
  go_enter_defers Try.func27, Try.ntmps27
  go_wp2_with (first
    | (go_at_call 25; refine (none_np _ _ h').mono ?_; rintro e w' ⟨rfl, rfl⟩))
  exact ⟨_, results_tmp rfl _ _ _, rfl, hU⟩

theorem Give_np (w : World) (v : Option Addr) (slot gen : Int) (h : NP w v) : Calls Try.prog 11 #[.pointer v, hv slot gen] w (Told (.int .i64 1) w) := by
  have h' := h.alloc (.cells #[.int .i64 slot, .int .u32 gen] 31)
  have hU : Upto NoS w (w.alloc (.cells #[.int .i64 slot, .int .u32 gen] 31)) := (Upto.refl _ w).alloc _
  clear h
  go_enter Try.func11, Try.ntmps11
  go_wp2_with (go_at_call 27; refine (leave_np _ v slot gen 0 h').mono ?_; rintro e w1 ⟨rfl, hu1⟩)
  go_ret
  exact ⟨rfl, hU.trans hu1⟩
theorem Retire_np (w : World) (v : Option Addr) (slot gen : Int) (h : NP w v) : Calls Try.prog 14 #[.pointer v, hv slot gen] w (Told (.int .i64 1) w) := by
  have h' := h.alloc (.cells #[.int .i64 slot, .int .u32 gen] 31)
  have hU : Upto NoS w (w.alloc (.cells #[.int .i64 slot, .int .u32 gen] 31)) := (Upto.refl _ w).alloc _
  clear h
  go_enter Try.func14, Try.ntmps14
  go_wp2_with (go_at_call 27; refine (leave_np _ v slot gen 2 h').mono ?_; rintro e w1 ⟨rfl, hu1⟩)
  go_ret
  exact ⟨rfl, hU.trans hu1⟩
theorem Free_np (w : World) (v : Option Addr) (slot : Int) (h : NP w v) : Calls Try.prog 13 #[.pointer v, .int .i64 slot] w (Told (.int .i64 1) w) := by
  go_enter Try.func13, Try.ntmps13
  go_wp2_with (go_at_call 25; refine (none_np _ _ h).mono ?_; rintro e w' ⟨rfl, rfl⟩)
  go_ret
  exact ⟨rfl, Upto.refl _ _⟩
theorem Count_np (w : World) (v : Option Addr) (h : NP w v) : Calls Try.prog 12 #[.pointer v] w (Told (.tuple #[.int .i64 0, .int .i64 0, .int .i64 0]) w) := by
  go_enter Try.func12, Try.ntmps12
  go_wp2_with (go_at_call 25; refine (none_np _ _ h).mono ?_; rintro e w' ⟨rfl, rfl⟩)
  go_ret3
  exact ⟨rfl, Upto.refl _ _⟩
theorem Size_np (w : World) (v : Option Addr) (h : NP w v) : Calls Try.prog 24 #[.pointer v] w (Told (.int .i64 0) w) := by
  go_enter Try.func24, Try.ntmps24
  go_wp2_with (go_at_call 25; refine (none_np _ _ h).mono ?_; rintro e w' ⟨rfl, rfl⟩)
  go_ret
  exact ⟨rfl, Upto.refl _ _⟩
theorem Take_np (w : World) (v : Option Addr) (h : NP w v) : Calls Try.prog 9 #[.pointer v] w (Told (.tuple #[hv 0 0, .int .i64 1]) w) := by
  have h' := h.alloc (.cells #[.int .i64 0, .int .u32 0] 31)
  have hU : Upto NoS w (w.alloc (.cells #[.int .i64 0, .int .u32 0] 31)) := (Upto.refl _ w).alloc _
  have R : (w.alloc (.cells #[.int .i64 0, .int .u32 0] 31)).rowIs w.heap.size 31 2 (handleF 0 0) := World.rowIs_alloc _ _ _ _ (by intro i hi; match i, hi with | 0, _ => rfl | 1, _ => rfl)
  have r0 := R.cell (i := 0) (by omega)
  have r1 := R.cell (i := 1) (by omega)
  have rf := R.frozen
  have E0 := Lib.hid (set2_0 R (.int .i64 0) (.int .u32 0))
  have E1 := Lib.hid (set2_1 R (.int .i64 0) (.int .u32 0))
  clear h
  go_enter Try.func9, Try.ntmps9
  go_wp2_with (go_at_call 25; refine (none_np _ _ h').mono ?_; rintro e w' ⟨rfl, rfl⟩)
  refine bodyPost_ret (v := .tuple #[hv 0 0, .int .i64 1]) (by simp [results, Try.results9, go_sem, E0.out, E1.out]) rfl ⟨rfl, ?_⟩
  first | exact hU | exact (hU.setNew (Nat.le_refl _) _).setNew (Nat.le_refl _) _

theorem build_zero (w : World) : (Instr.build 57 #[]).run Try.prog w = .ok (.agg (cells0 0)) w := by kernel_rfl
theorem cells0_512 : (cells0 0)[512]? = some (.int .i64 0) := by kernel_rfl
section
variable {ops : Array Oper} {Q : Exit → Act → World → Prop} {a : Act} {w : World} {rest : List Oper} {o : Oper}
theorem wp_build_zero (hg : o.guard = none) (hop : o.op = .build 57 #[])
    (hK : wpList Try.prog ops Q rest (a.put o.dst (.agg (cells0 0))) w) : wpList Try.prog ops Q (o :: rest) a w := by
  refine wpList_run hg ?_ hK
  have := build_zero w
  simp only [execOp, hop, List.map_toArray, List.map_nil, Sem.run_bind, this, Result.andThen_ok, Sem.run_pure]
end

theorem NP.made (w : World) : NP (w.alloc (.cells (cells0 0) 57)) (some ⟨w.heap.size, 0, none⟩) := by
  have hR : (w.alloc (.cells (cells0 0) 57)).rowIs w.heap.size 57 516 (newF 0 0 0) := ⟨_, heap_alloc_new w _, cells0_size 0, fun i hi => cells0_at 0 i hi⟩
  exact .inr ⟨_, rfl, hR.lt, hR.cell (i := 512) (by omega)⟩

set_option maxRecDepth 100000 in
set_option maxHeartbeats 1000000 in
theorem noneLaw_walk (w : World) (slot gen at_ : Int) :
    Calls Try.prog 6 #[hv slot gen, .int .i64 at_] w (Told (.bool true) w) := by
  go_enter Try.func6, Try.ntmps6
  go_wp2_with fail
  have hA := new_1 w #[.int .i64 slot, .int .u32 gen] 31 0 (.int .i64 slot) rfl
  have hD := new_1 w #[.int .i64 slot, .int .u32 gen] 31 1 (.int .u32 gen) rfl
  have hU : Upto NoS w (w.alloc (.cells #[.int .i64 slot, .int .u32 gen] 31)) := (Upto.refl _ w).alloc _
  generalize w.alloc (.cells #[.int .i64 slot, .int .u32 gen] 31) = W1 at hA hD hU ⊢
  generalize w.heap.size = p at hA hD ⊢
  go_loopw [5, 6] (fun v t wr => ∃ (k : Nat) (o : Option Addr), k ≤ 2 ∧ v = .pointer o ∧ t = .int .i64 k ∧ NP wr o ∧ wr.cell? ⟨p, 0, none⟩ = some (.int .i64 slot) ∧ wr.cell? ⟨p, 1, none⟩ = some (.int .u32 gen) ∧ Upto NoS w wr)
    (fun _ t _ => 2 - (intOf t).toNat)
  case atStart => exact ⟨0, none, by omega, rfl, rfl, .inl rfl, hA, hD, hU⟩
  case round =>
    clear hA hD hU
    obtain ⟨k, o, hk, rfl, rfl, hN, hA, hD, hU⟩ := hrel
    by_cases hlt : k < 2
    · go_wp2_with (first
        | (go_at_call 9; go_must (refine (Take_np wr o hN).mono ?_; rintro e w1 ⟨rfl, hu1⟩; have hN1 := (hN.upto hu1).alloc (.cells #[.int .i64 0, .int .u32 0] 31); have hX := new_1 w1 #[.int .i64 0, .int .u32 0] 31 0 (.int .i64 0) rfl; have hY := new_1 w1 #[.int .i64 0, .int .u32 0] 31 1 (.int .u32 0) rfl; have hU1 := (hU.trans hu1).alloc (.cells #[.int .i64 0, .int .u32 0] 31); have hA1 := keep_alloc (hu1.keep hA id) (.cells #[.int .i64 0, .int .u32 0] 31); have hD1 := keep_alloc (hu1.keep hD id) (.cells #[.int .i64 0, .int .u32 0] 31)))
        | (go_at_call 12; go_must (refine (Count_np _ o hN1).mono ?_; rintro e w2 ⟨rfl, hu2⟩; have hN2 := hN1.upto hu2; have hX2 := hu2.keep hX id; have hY2 := hu2.keep hY id; have hA2 := hu2.keep hA1 id; have hD2 := hu2.keep hD1 id; have hU2 := hU1.trans hu2))
        | (go_at_call 10; go_must (refine (Live_np _ o slot gen hN2).mono ?_; rintro e w3 ⟨rfl, hu3⟩; have hN3 := hN2.upto hu3; have hA3 := hu3.keep hA2 id; have hD3 := hu3.keep hD2 id; have hU3 := hU2.trans hu3))
        | (go_at_call 11; go_must (refine (Give_np _ o slot gen hN3).mono ?_; rintro e w4 ⟨rfl, hu4⟩; have hN4 := hN3.upto hu4; have hA4 := hu4.keep hA3 id; have hD4 := hu4.keep hD3 id; have hU4 := hU3.trans hu4))
        | (go_at_call 14; go_must (refine (Retire_np _ o slot gen hN4).mono ?_; rintro e w5 ⟨rfl, hu5⟩; have hN5 := hN4.upto hu5; have hA5 := hu5.keep hA4 id; have hD5 := hu5.keep hD4 id; have hU5 := hU4.trans hu5))
        | (go_at_call 13; go_must (refine (Free_np _ o at_ hN5).mono ?_; rintro e w6 ⟨rfl, hu6⟩; have hN6 := hN5.upto hu6; have hA6 := hu6.keep hA5 id; have hD6 := hu6.keep hD5 id; have hU6 := hU5.trans hu6))
        | (go_at_call 21; go_must (refine (State_np _ o at_ hN6).mono ?_; rintro e w7 ⟨rfl, rfl⟩))
        | (go_at_call 24; go_must (refine (Size_np _ o hN6).mono ?_; rintro e w8 ⟨rfl, hu8⟩; have hA8 := hu8.keep hA6 id; have hD8 := hu8.keep hD6 id; have hU8 := hU6.trans hu8))
        | (with_reducible refine wp_build_zero rfl rfl ?_)
        | (with_reducible refine wp_box_slab (.tmp 80) 0 rfl rfl rfl ?_))
      have hNN := NP.made w8
      have hAA := keep_alloc hA8 (.cells (cells0 0) 57)
      have hDD := keep_alloc hD8 (.cells (cells0 0) 57)
      have hUU := hU8.alloc (.cells (cells0 0) 57)
      go_roundw
      case rel => exact ⟨k + 1, _, by omega, rfl, by go_num, hNN, hAA, hDD, hUU⟩
      case measure => simp [intOf]; omega
    · obtain rfl : k = 2 := by omega
      go_wp2_with (go_at_call 7; refine (slotted_any _).mono ?_; rintro e w2 ⟨rfl, hu⟩)
      go_ret
      exact ⟨rfl, hU.trans hu⟩
end Go.Proofs.Ythfmngpocfofnaa
