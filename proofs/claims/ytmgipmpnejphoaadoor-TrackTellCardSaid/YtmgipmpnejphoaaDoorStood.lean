/- The chapter's runs: stood returns true. -/
import Derived.Test.YtmgipmpnejphoaaDoorRun
namespace Go.Proofs.YtmgipmpnejphoaaDoor
open Go Go.RowKit Go.Deep

theorem Run_to (w : World) (f : Int) (a : Option Addr) (len cap : Nat) (z : Nat → Bool × Nat) (v : Value) (hv : runV f z len = v) (hT : Tab w) (hz : StepsAt w a len z) (hl : len ≤ cap) (hm : cap ≤ 9223372036854775807) :
    Calls Tryd.prog 8 #[.int .i64 f, .slice a len cap] w (Told v w) := hv ▸ Run_any w f a len cap z hT hz hl hm
theorem Early_to (w : World) (f st : Int) (q : Bool) (hT : Tab w) (h : earlyB f st = q) : Calls Tryd.prog 11 #[.int .i64 f, .int .i64 st] w (Told (.bool q) w) := h ▸ Early_any w f st hT
theorem Timeout_to (w : World) (f st : Int) (q : Int) (hT : Tab w) (h : timeoutI f st = q) : Calls Tryd.prog 12 #[.int .i64 f, .int .i64 st] w (Told (.int .i64 q) w) := h ▸ Timeout_any w f st hT

def stepCells (L : List (Bool × Nat)) : List Value := L.flatMap fun s => [.bool s.1, .int .u8 (s.2 : Nat)]
def zOf (L : List (Bool × Nat)) (k : Nat) : Bool × Nat := L.getD k (false, 0)
theorem stepCells_at (L : List (Bool × Nat)) (j : Nat) (h : j < L.length) : (stepCells L)[j * 2]? = some (.bool (zOf L j).1) ∧ (stepCells L)[j * 2 + 1]? = some (.int .u8 ((zOf L j).2 : Nat)) := by
  induction L generalizing j with
  | nil => simp at h
  | cons p l ih =>
    cases j with
    | zero => exact ⟨rfl, rfl⟩
    | succ j =>
      have := ih j (by simpa using h)
      rw [show (j + 1) * 2 = j * 2 + 2 from by omega]
      simpa [stepCells, zOf] using this
theorem steps_new (w : World) (L : List (Bool × Nat)) (t : TypeId) (n : Nat) (hn : n ≤ L.length) (hL : ∀ p ∈ L, p.2 < 256) : StepsAt (w.alloc (.cells (stepCells L).toArray t)) (some ⟨w.heap.size, 0, none⟩) n (zOf L) := by
  intro k hk
  have hk' : k < L.length := by omega
  have h := stepCells_at L k hk'
  refine ⟨?_, w.heap.size, 0, rfl, by simp, ?_, ?_⟩
  · have : zOf L k = L[k] := by simp [zOf, hk']
    rw [this]
    exact hL _ (List.getElem_mem hk')
  · rw [Nat.zero_add]
    exact new_1 w _ t _ _ (by simpa using h.1)
  · rw [Nat.zero_add]
    exact new_1 w _ t _ _ (by simpa using h.2)

abbrev L5 : List (Bool × Nat) := [(false, 2), (true, 18), (false, 16), (false, 17), (true, 17)]
set_option maxRecDepth 100000 in
theorem stood_any (w : World) (hT : Tab w) : Calls Tryd.prog 7 #[] w (Told (.bool true) w) := by
  have S := steps_new w L5 27 5 (by decide) (by decide)
  have T := hT.alloc (.cells (stepCells L5).toArray 27)
  have U : Upto NoS w (w.alloc (.cells (stepCells L5).toArray 27)) := (Upto.refl _ _).alloc _
  have hW : w.alloc (.cells #[.bool false, .int .u8 2, .bool true, .int .u8 18, .bool false, .int .u8 16, .bool false, .int .u8 17, .bool true, .int .u8 17] 27) = w.alloc (.cells (stepCells L5).toArray 27) := rfl
  clear hT
  go_enter Tryd.func7, Tryd.ntmps7
  go_wp2_with fail
  refine (Run_to _ 3 _ 3 5 (zOf L5) (.tuple #[.int .i64 3, .bool true]) rfl (hW ▸ T) (hW ▸ S.less (by omega)) (by omega) (by omega)).mono ?_
  rintro e w1 ⟨rfl, hu1⟩
  clear hW
  replace S := S.upto hu1
  replace T := T.upto hu1
  replace U := U.trans hu1
  clear hu1
  go_wp2_with fail
  refine (Run_to _ 3 _ 5 5 (zOf L5) (.tuple #[.int .i64 6, .bool true]) rfl T S (by omega) (by omega)).mono ?_
  rintro e w2 ⟨rfl, hu2⟩
  replace T := T.upto hu2
  replace U := U.trans hu2
  clear hu2 S
  have S2 := steps_new w2 [(false, 16)] 27 1 (by decide) (by decide)
  have U2 := U.alloc (.cells (stepCells [(false, 16)]).toArray 27)
  have T2 := T.alloc (.cells (stepCells [(false, 16)]).toArray 27)
  have hW : w2.alloc (.cells #[.bool false, .int .u8 16] 27) = w2.alloc (.cells (stepCells [(false, 16)]).toArray 27) := rfl
  go_wp2_with fail
  refine (Run_to _ 3 _ 1 1 (zOf [(false, 16)]) (.tuple #[.int .i64 0, .bool false]) rfl (hW ▸ T2) (hW ▸ S2) (by omega) (by omega)).mono ?_
  rintro e w3 ⟨rfl, hu3⟩
  replace T := T2.upto hu3
  replace U := U2.trans hu3
  clear hu3 S2 T2 U2 hW
  have S2 := steps_new w3 [(true, 0)] 27 1 (by decide) (by decide)
  have U2 := U.alloc (.cells (stepCells [(true, 0)]).toArray 27)
  have T2 := T.alloc (.cells (stepCells [(true, 0)]).toArray 27)
  have hW : w3.alloc (.cells #[.bool true, .int .u8 0] 27) = w3.alloc (.cells (stepCells [(true, 0)]).toArray 27) := rfl
  go_wp2_with fail
  refine (Run_to _ 1 _ 1 1 (zOf [(true, 0)]) (.tuple #[.int .i64 0, .bool false]) rfl (hW ▸ T2) (hW ▸ S2) (by omega) (by omega)).mono ?_
  rintro e w4 ⟨rfl, hu4⟩
  replace T := T2.upto hu4
  replace U := U2.trans hu4
  clear hu4 S2 T2 U2 hW
  go_wp2_with (first
    | (go_at_call 12; refine (Timeout_to _ _ _ _ T rfl).mono ?_; rintro e w' ⟨rfl, hu'⟩; replace T := T.upto hu'; replace U := U.trans hu')
    | (go_at_call 11; refine (Early_to _ _ _ _ T rfl).mono ?_; rintro e w' ⟨rfl, hu'⟩; replace T := T.upto hu'; replace U := U.trans hu'))
  go_ret
  exact ⟨rfl, U⟩
end Go.Proofs.YtmgipmpnejphoaaDoor
