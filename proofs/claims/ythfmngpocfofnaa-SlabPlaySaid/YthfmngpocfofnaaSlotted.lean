/- The chapter's examples, walked: slotted returns true. -/
import Derived.Test.YthfmngpocfofnaaWalkF
namespace Go.Proofs.Ythfmngpocfofnaa
open Go Go.RowKit Go.Deep Md

theorem Take_to (w : World) (b : Nat) (st st' : St) (v : Value) (h : SlabAt w b st) (hs : takeSt st = st') (hv : takeV st = v) :
    Calls Try.prog 9 #[.pointer (some ⟨b, 0, none⟩)] w (Turned b st' w v) := hs ▸ hv ▸ Take_any w b st h
theorem Give_to (w : World) (b : Nat) (st st' : St) (slot gen : Nat) (n : Int) (h : SlabAt w b st) (h1 : slot < 256) (h2 : gen < 4294967296) (hs : leaveSt st slot gen 0 = st') (hv : leaveE st slot gen = n) :
    Calls Try.prog 11 #[.pointer (some ⟨b, 0, none⟩), .agg #[.int .i64 slot, .int .u32 gen]] w (Turned b st' w (.int .i64 n)) := hs ▸ hv ▸ Give_any w b st slot gen h (by omega) (by omega) (by omega) (by omega)
theorem Retire_to (w : World) (b : Nat) (st st' : St) (slot gen : Nat) (n : Int) (h : SlabAt w b st) (h1 : slot < 256) (h2 : gen < 4294967296) (hs : leaveSt st slot gen 2 = st') (hv : leaveE st slot gen = n) :
    Calls Try.prog 14 #[.pointer (some ⟨b, 0, none⟩), .agg #[.int .i64 slot, .int .u32 gen]] w (Turned b st' w (.int .i64 n)) := hs ▸ hv ▸ Retire_any w b st slot gen h (by omega) (by omega) (by omega) (by omega)
theorem Free_to (w : World) (b : Nat) (st st' : St) (slot : Nat) (n : Int) (h : SlabAt w b st) (h1 : slot < 256) (hs : freeSt st slot = st') (hv : freeE st slot = n) :
    Calls Try.prog 13 #[.pointer (some ⟨b, 0, none⟩), .int .i64 slot] w (Turned b st' w (.int .i64 n)) := hs ▸ hv ▸ Free_any w b st slot h (by omega) (by omega)
theorem Live_to (w : World) (b : Nat) (st : St) (slot gen : Nat) (q : Bool) (h : SlabAt w b st) (h1 : slot < 256) (h2 : gen < 4294967296) (hv : liveB st slot gen = q) :
    Calls Try.prog 10 #[.pointer (some ⟨b, 0, none⟩), .agg #[.int .i64 slot, .int .u32 gen]] w (BoolAt q w) := hv ▸ Live_any w b st slot gen h (by omega) (by omega) (by omega) (by omega)

set_option maxRecDepth 100000 in
theorem slotted_any (w : World) : Calls Try.prog 7 #[] w (Told (.bool true) w) := by
  go_enter Try.func7, Try.ntmps7
  go_wp2_with fail
  refine (New_ok _ 2 (by omega) (by omega)).mono ?_
  rintro e w1 ⟨rfl, hB1, hu1⟩
  obtain ⟨b, hb⟩ : ∃ b, b = w.heap.size := ⟨_, rfl⟩
  rw [← hb] at hB1 ⊢
  have Hb := Lib.hid hb
  clear hb
  go_wp2_with fail
  refine (Take_to _ b (fresh 2) [(1, 1), (0, 1)] (.tuple #[hv 0 1, .int .i64 0]) hB1 rfl rfl).mono ?_
  rintro e w2 ⟨rfl, hB2, hu2⟩
  have l2 := hB2.lt
  have n2 : ¬ w2.heap.size = b := by omega
  have A2 := new_1 w2 #[.int .i64 0, .int .u32 1] 31 0 (.int .i64 0) rfl
  have D2 := new_1 w2 #[.int .i64 0, .int .u32 1] 31 1 (.int .u32 1) rfl
  go_wp2_with fail
  refine (Take_to _ b [(1, 1), (0, 1)] [(1, 1), (1, 1)] (.tuple #[hv 1 1, .int .i64 0]) (hB2.alloc _) rfl rfl).mono ?_
  rintro e w3 ⟨rfl, hB3, hu3⟩
  have l3 := hB3.lt
  have n3 : ¬ w3.heap.size = b := by omega
  have A2' := keep_alloc (hu3.keep A2 n2) (.cells #[.int .i64 1, .int .u32 1] 31)
  have D2' := keep_alloc (hu3.keep D2 n2) (.cells #[.int .i64 1, .int .u32 1] 31)
  have A3 := new_1 w3 #[.int .i64 1, .int .u32 1] 31 0 (.int .i64 1) rfl
  have D3 := new_1 w3 #[.int .i64 1, .int .u32 1] 31 1 (.int .u32 1) rfl
  clear A2 D2
  go_wp2_with fail
  refine (Take_to _ b [(1, 1), (1, 1)] [(1, 1), (1, 1)] (.tuple #[hv 0 0, .int .i64 8]) (hB3.alloc _) rfl rfl).mono ?_
  rintro e w4 ⟨rfl, hB4, hu4⟩
  have A2 := keep_alloc (hu4.keep A2' n2) (.cells #[.int .i64 0, .int .u32 0] 31)
  have D2 := keep_alloc (hu4.keep D2' n2) (.cells #[.int .i64 0, .int .u32 0] 31)
  have A3' := keep_alloc (hu4.keep A3 n3) (.cells #[.int .i64 0, .int .u32 0] 31)
  have D3' := keep_alloc (hu4.keep D3 n3) (.cells #[.int .i64 0, .int .u32 0] 31)
  have hU4 := (((hu2.alloc (.cells #[.int .i64 0, .int .u32 1] 31)).trans hu3).alloc (.cells #[.int .i64 1, .int .u32 1] 31)).trans hu4
  have hB4 := hB4.alloc (.cells #[.int .i64 0, .int .u32 0] 31)
  have hU4 := hU4.alloc (.cells #[.int .i64 0, .int .u32 0] 31)
  clear A2' D2' A3 D3 hu2 hu3 hu4 hB1 hB2 hB3
  go_wp2_with fail
  have h01 : w4.heap.size = (w4.alloc (.cells #[.int .i64 0, .int .u32 0] 31)).heap.size - 1 := by simp
  generalize w4.alloc (.cells #[.int .i64 0, .int .u32 0] 31) = W4 at hB4 A2 D2 A3' D3' hU4 h01 ⊢
  generalize w4.heap.size = p4 at h01 ⊢
  clear h01
  go_region_held3 (fun w' => w'.cell? ⟨w2.heap.size, 0, none⟩ = some (.int .i64 0) ∧ w'.cell? ⟨w2.heap.size, 1, none⟩ = some (.int .u32 1))
    (first | exact ⟨A2, D2⟩ | exact ⟨hu7.keep A2 n2, hu7.keep D2 n2⟩ | exact ⟨hu8.keep (hu7.keep A2 n2) id, hu8.keep (hu7.keep D2 n2) id⟩)
    (first
      | (go_at_call 14; refine (Retire_to _ b [(1, 1), (1, 1)] [(2, 2), (1, 1)] 0 1 0 hB4.drew (by omega) (by omega) rfl rfl).mono ?_; rintro e w7 ⟨rfl, hB7, hu7⟩)
      | (go_at_call 10; refine (Live_to _ b [(2, 2), (1, 1)] 0 1 false hB7 (by omega) (by omega) rfl).mono ?_; rintro e w8 ⟨rfl, hu8⟩))
  have hB8 := hB7.upto hu8 id
  have A3 := hu8.keep (hu7.keep A3' n3) id
  have D3 := hu8.keep (hu7.keep D3' n3) id
  have hU8 := (hU4.drew.trans hu7).trans (hu8.mono (T := fun x => x = b) (fun _ _ h => h.elim))
  clear A2 D2 A3' D3' hB4 hB7 hu7 hu8 hU4
  go_wp2_with fail
  refine (Take_to _ b [(2, 2), (1, 1)] [(2, 2), (1, 1)] (.tuple #[hv 0 0, .int .i64 8]) hB8 rfl rfl).mono ?_
  rintro e w9 ⟨rfl, hB9, hu9⟩
  have A3' := keep_alloc (hu9.keep A3 n3) (.cells #[.int .i64 0, .int .u32 0] 31)
  have D3' := keep_alloc (hu9.keep D3 n3) (.cells #[.int .i64 0, .int .u32 0] 31)
  have hU9 := (hU8.trans hu9).alloc (.cells #[.int .i64 0, .int .u32 0] 31)
  clear A3 D3 hU8 hu9
  go_wp2_with fail
  refine (Free_to _ b [(2, 2), (1, 1)] [(0, 2), (1, 1)] 0 0 (hB9.alloc _) (by omega) rfl rfl).mono ?_
  rintro e w10 ⟨rfl, hB10, hu10⟩
  have A3 := hu10.keep A3' n3
  have D3 := hu10.keep D3' n3
  have hU10 := hU9.trans hu10
  clear A3' D3' hU9 hu10
  go_wp2_with fail
  refine (Take_to _ b [(0, 2), (1, 1)] [(1, 2), (1, 1)] (.tuple #[hv 0 2, .int .i64 0]) hB10 rfl rfl).mono ?_
  rintro e w11 ⟨rfl, hB11, hu11⟩
  have l11 := hB11.lt
  have n11 : ¬ w11.heap.size = b := by omega
  have A3' := keep_alloc (hu11.keep A3 n3) (.cells #[.int .i64 0, .int .u32 2] 31)
  have D3' := keep_alloc (hu11.keep D3 n3) (.cells #[.int .i64 0, .int .u32 2] 31)
  have A4 := new_1 w11 #[.int .i64 0, .int .u32 2] 31 0 (.int .i64 0) rfl
  have D4 := new_1 w11 #[.int .i64 0, .int .u32 2] 31 1 (.int .u32 2) rfl
  have hU11 := (hU10.trans hu11).alloc (.cells #[.int .i64 0, .int .u32 2] 31)
  clear A3 D3 hU10 hu11
  go_wp2_with fail
  refine (Give_to _ b [(1, 2), (1, 1)] [(1, 2), (0, 2)] 1 1 0 (hB11.alloc _) (by omega) (by omega) rfl rfl).mono ?_
  rintro e w12 ⟨rfl, hB12, hu12⟩
  have A3 := hu12.keep A3' n3
  have D3 := hu12.keep D3' n3
  have hU12 := hU11.trans hu12
  clear A3' D3' hU11 hu12
  go_wp2_with fail
  refine (Give_to _ b [(1, 2), (0, 2)] [(1, 2), (0, 2)] 1 1 9 hB12 (by omega) (by omega) rfl rfl).mono ?_
  rintro e w13 ⟨rfl, hB13, hu13⟩
  go_wp2_with fail
  refine (Free_to _ b [(1, 2), (0, 2)] [(1, 2), (0, 2)] 1 6 hB13 (by omega) rfl rfl).mono ?_
  rintro e w14 ⟨rfl, hB14, hu14⟩
  go_wp2_with fail
  go_ret
  have hU14 := (hU12.trans hu13).trans hu14
  exact ⟨rfl, Upto.of_below (by
    have h1 : Below w.heap.size w w1 := hu1.below (Nat.le_refl _) (fun k h => h.elim)
    exact h1.trans ((hU14.below h1.size (fun k hk => by rw [hk, Hb.out]; exact Nat.le_refl _)).mono (Nat.le_refl _)))⟩
end Go.Proofs.Ythfmngpocfofnaa
