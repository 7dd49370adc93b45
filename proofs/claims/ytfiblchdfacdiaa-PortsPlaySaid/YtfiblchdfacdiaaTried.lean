/- The ports of a wish, as they are tried: the iterator, walked. -/
import Derived.Test.YtfiblchdfacdiaaAt
import Derived.Test.YtfiblchdfacdiaaRange
import Derived.Sort.QuietTacIn
namespace Go.Proofs.Ytfiblchdfacdiaa
open Go Go.RowKit Go.Deep Go.Maps
attribute [local go_sem] Oper.semAt_some

/-- A wish. -/
structure Ws where
  p : Nat
  ia : Nat
  ib : Nat
  ip : Nat
  fr : Nat
  tu : Nat
  dr : Nat
structure Ws.Ok (W : Ws) : Prop where
  p : W.p < 256
  ia : W.ia < 4294967296
  ib : W.ib < 65536
  ip : W.ip < 4294967296
  fr : W.fr < 65536
  tu : W.tu < 65536
  dr : W.dr < 65536
abbrev wcells (W : Ws) : Array Value := #[.int .u8 (W.p : Nat), .int .u32 (W.ia : Nat), .int .u16 (W.ib : Nat), .int .u32 (W.ip : Nat), .int .u16 (W.fr : Nat), .int .u16 (W.tu : Nat), .int .u16 (W.dr : Nat)]
abbrev wv (W : Ws) : Value := .agg (wcells W)
def wF (W : Ws) (i : Nat) : Value :=
  if i = 0 then .int .u8 (W.p : Nat) else if i = 1 then .int .u32 (W.ia : Nat) else if i = 2 then .int .u16 (W.ib : Nat) else if i = 3 then .int .u32 (W.ip : Nat) else if i = 4 then .int .u16 (W.fr : Nat)
  else if i = 5 then .int .u16 (W.tu : Nat) else .int .u16 (W.dr : Nat)
theorem new_ws (w : World) (W : Ws) : (w.alloc (.cells (wcells W) 28)).rowIs w.heap.size 28 7 (wF W) :=
  World.rowIs_alloc w (wcells W) 28 _ (fun i hi => by
    have : i < 7 := hi
    match i, this with
    | 0, _ => rfl | 1, _ => rfl | 2, _ => rfl | 3, _ => rfl | 4, _ => rfl | 5, _ => rfl | 6, _ => rfl)
theorem ws_cells {w : World} {k : Nat} {W : Ws} (hR : w.rowIs k 28 7 (wF W)) :
    w.cell? ⟨k, 0, none⟩ = some (.int .u8 (W.p : Nat)) ∧ w.cell? ⟨k, 1, none⟩ = some (.int .u32 (W.ia : Nat)) ∧ w.cell? ⟨k, 2, none⟩ = some (.int .u16 (W.ib : Nat)) ∧ w.cell? ⟨k, 3, none⟩ = some (.int .u32 (W.ip : Nat)) ∧
      w.cell? ⟨k, 4, none⟩ = some (.int .u16 (W.fr : Nat)) ∧ w.cell? ⟨k, 5, none⟩ = some (.int .u16 (W.tu : Nat)) ∧ w.cell? ⟨k, 6, none⟩ = some (.int .u16 (W.dr : Nat)) :=
  ⟨hR.cell (i := 0) (by omega), hR.cell (i := 1) (by omega), hR.cell (i := 2) (by omega), hR.cell (i := 3) (by omega), hR.cell (i := 4) (by omega), hR.cell (i := 5) (by omega), hR.cell (i := 6) (by omega)⟩

def Ws.n (W : Ws) : Nat := W.tu - W.fr + 1
def Ws.at (W : Ws) (i : Nat) : Nat := W.fr + (W.dr + i) % W.n
/-- Is a port odd where the other one is even? -/
def skipB (a b : Nat) : Bool := bits .and .u16 (bits .xor .u16 (a : Nat) (b : Nat)) 1 == 1
def Ws.part (W : Ws) (k i : Nat) : List Nat := ((List.range i).map W.at).filter fun q => !(decide (k = 0) && skipB q W.ib)
def Ws.own (W : Ws) : List Nat := if W.fr ≤ W.ib ∧ W.ib ≤ W.tu then [W.ib] else []
def Ws.done (W : Ws) (k : Nat) : List Nat := W.own ++ (if 1 ≤ k then W.part 0 W.n else []) ++ (if 2 ≤ k then W.part 1 W.n else [])
def Ws.tried (W : Ws) : List Nat := W.done 2

theorem own_first (W : Ws) : W.own <+: W.tried := by
  unfold Ws.tried Ws.done
  rw [List.append_assoc]
  exact List.prefix_append _ _

theorem part_succ (W : Ws) (k i : Nat) : W.part k (i + 1) = W.part k i ++ (if (decide (k = 0) && skipB (W.at i) W.ib) = true then [] else [W.at i]) := by
  unfold Ws.part
  rw [List.range_succ, List.map_append, List.filter_append]
  congr 1
  simp only [List.map_cons, List.map_nil, List.filter_cons, List.filter_nil]
  cases (decide (k = 0) && skipB (W.at i) W.ib) <;> simp
theorem part_prefix (W : Ws) (k : Nat) {i j : Nat} (h : i ≤ j) : W.part k i <+: W.part k j := by
  induction j with
  | zero => obtain rfl : i = 0 := by omega
            exact List.prefix_refl _
  | succ j ih =>
    rcases Nat.lt_or_ge i (j + 1) with hlt | hge
    · exact (ih (by omega)).trans (by rw [part_succ]; exact List.prefix_append _ _)
    · obtain rfl : i = j + 1 := by omega
      exact List.prefix_refl _
theorem done_succ (W : Ws) {k : Nat} (hk : k < 2) : W.done (k + 1) = W.done k ++ W.part k W.n := by
  match k, hk with
  | 0, _ => simp [Ws.done]
  | 1, _ => simp [Ws.done]
theorem done_prefix (W : Ws) {k : Nat} (hk : k ≤ 2) : W.done k <+: W.tried := by
  match k, hk with
  | 0, _ => simp [Ws.done, Ws.tried]
  | 1, _ => simp [Ws.done, Ws.tried]
  | 2, _ => exact List.prefix_refl _
theorem come_prefix (W : Ws) {k i : Nat} (hk : k < 2) (hi : i < W.n) (hs : (decide (k = 0) && skipB (W.at i) W.ib) = false) : (W.done k ++ W.part k i) ++ [W.at i] <+: W.tried := by
  have h1 : W.part k i ++ [W.at i] <+: W.part k W.n := by
    have := part_succ W k i
    rw [hs] at this
    simp only [Bool.false_eq_true, if_false] at this
    rw [← this]
    exact part_prefix W k (by omega)
  rw [List.append_assoc]
  have h2 : W.done k ++ (W.part k i ++ [W.at i]) <+: W.done k ++ W.part k W.n := (List.prefix_append_right_inj _).2 h1
  rw [← done_succ W hk] at h2
  exact h2.trans (done_prefix W (by omega))

theorem at_wrap (W : Ws) (hW : W.Ok) (h2 : W.fr ≤ W.tu) (i : Nat) : IntKind.u16.wrap ((W.fr : Int) + IntKind.u16.wrap (((W.dr : Int) + (i : Int)) % (W.n : Int))) = (W.at i : Nat) := by
  have hn : 0 < W.n := by unfold Ws.n; omega
  have hm : (W.dr + i) % W.n < W.n := Nat.mod_lt _ hn
  have hb := hW.tu
  have e : ((W.dr : Int) + (i : Int)) % (W.n : Int) = ((W.dr + i) % W.n : Nat) := by push_cast; rfl
  have hle : W.fr + (W.dr + i) % W.n ≤ W.tu := by unfold Ws.n at hm ⊢; omega
  rw [e, IntWalk.u16_in (((W.dr + i) % W.n : Nat) : Int) (by omega), IntWalk.u16_in _ (by omega)]
  unfold Ws.at
  push_cast
  rfl
theorem index85_0 (w : World) : (Instr.index 85 (.agg #[.bool true, .bool false]) (.int .i64 0)).run Try.prog w = .ok (.bool true) w := by kernel_rfl
theorem index85_1 (w : World) : (Instr.index 85 (.agg #[.bool true, .bool false]) (.int .i64 1)).run Try.prog w = .ok (.bool false) w := by kernel_rfl
set_option maxRecDepth 100000 in
set_option maxHeartbeats 4000000 in
theorem tried_iter (n : Nat) (hn : 1 ≤ n) (W : Ws) (hW : W.Ok) (h1 : 1 ≤ W.fr) (h2 : W.fr ≤ W.tu) : Iterates Try.prog n 32 #[wv W] (fun x => .int .u16 (x : Nat)) W.tried := by
  intro l J Jx w hJ hY h0
  refine callsIn_of_wp Try.func32 rfl trivial ?_ rfl
  simp only [Try.ntmps32, List.size_toArray, List.length_cons, List.length_nil, Nat.reduceAdd, Nat.reduceSub, Array.replicate_succ, Array.replicate_zero, List.push_toArray, List.append_toArray, List.nil_append, List.cons_append]
  have hR0 := new_ws w W
  have x0 := index85_0
  have x1 := index85_1
  obtain ⟨d0, d1, d2, d3, d4, d5, d6⟩ := ws_cells hR0
  have hJa : ∀ s A o, J s A → J s (A.alloc o) := fun s A o h => hJ s A _ none h (World.grownBy_alloc A o none) (fun r e => by cases e)
  have hJd : ∀ s A m, J s A → J s (A.drewN m) := fun s A m h => hJ s A _ none h ⟨rfl, rfl, rfl, Nat.le_refl _, fun _ _ _ => rfl⟩ (fun r e => by cases e)
  have hWk := hW
  obtain ⟨o1, o2, o3, o4, o5, o6, o7⟩ := hW
  have eN : (W.tu : Int) - W.fr + 1 = (W.n : Int) := by unfold Ws.n; omega
  have wN : IntKind.i64.wrap ((W.tu : Int) - W.fr) = (W.tu : Int) - W.fr := IntWalk.i64_in _ (by omega)
  have wM : IntKind.i64.wrap (W.n : Int) = (W.n : Int) := IntWalk.i64_in _ (by unfold Ws.n; omega)
  by_cases hge : W.fr ≤ W.ib
  · have b1 : decide ((W.fr : Int) ≤ W.ib) = true := decide_eq_true (by omega)
    by_cases hle : W.ib ≤ W.tu
    · have b2 : decide ((W.ib : Int) ≤ W.tu) = true := decide_eq_true (by omega)
      have hO : W.own = [W.ib] := if_pos ⟨hge, hle⟩
      have hpre : ([] : List Nat) ++ [W.ib] <+: W.tried := by have := own_first W; rw [hO] at this; exact this
      have hRw0 := hR0
      obtain ⟨fn, tmps, assign, body, hy, hR⟩ := hY [] W.ib (w.alloc (.cells (wcells W) 28)) (hJa _ _ _ h0) hpre
      gi_wp2
      refine hR.mono ?_
      rintro e W3 (⟨rfl, hJ3, hc3⟩ | ⟨rfl, hJx3⟩)
      · have hRw := hc3.row hRw0
        have hJ0 : J (W.done 0) W3 := by simp only [Ws.done, hO]; exact hJ3
        clear hy hR hJ3 hc3 hRw0
        gi_wp2
        gi_loopw [40] (fun v wr => ∃ k : Nat, k ≤ 2 ∧ v = .int .i64 k ∧ J (W.done k) wr ∧ wr.rowIs w.heap.size 28 7 (wF W)) (fun v _ => 2 - (intOf v).toNat)
        case atStart => exact ⟨0, by omega, rfl, hJ0, hRw⟩
        case round =>
          clear hJ0 hRw d0 d1 d2 d3 d4 d5 d6 hR0 h0
          obtain ⟨k, hk, rfl, hJk, hRk⟩ := hrel
          by_cases hk2 : k < 2
          · have hkk : k = 0 ∨ k = 1 := by omega
            rcases hkk with rfl | rfl
            · gi_wp2
              gi_loopw [44] (fun v wr => ∃ i : Nat, i ≤ W.n ∧ v = .int .i64 i ∧ J (W.done 0 ++ W.part 0 i) wr ∧ wr.rowIs w.heap.size 28 7 (wF W)) (fun v _ => W.n - (intOf v).toNat)
              case atStart => exact ⟨0, by omega, rfl, by simpa [Ws.part] using hJk, hRk⟩
              case round =>
                clear hJk hRk
                obtain ⟨i, hi, rfl, hJi, hRi⟩ := hrel
                obtain ⟨d0, d1, d2, d3, d4, d5, d6⟩ := ws_cells hRi
                by_cases hin : i < W.n
                · have eA := at_wrap W hWk h2 i
                  cases hs0 : skipB (W.at i) W.ib
                  · have hs := Lib.hid hs0
                    unfold skipB at hs0
                    gi_wp2
                    refine wpIn_wide.2 ?_
                    go_quiet (fail)
                    obtain ⟨fn, tmps, assign, body, hy, hR⟩ := hY _ (W.at i) (wr.drewN nq) (hJd _ _ _ hJi) (come_prefix W (by omega) hin (show (decide ((0 : Nat) = 0) && skipB (W.at i) W.ib) = false by rw [hs.out]; rfl))
                    gi_wp2
                    refine hR.mono ?_
                    rintro e W3 (⟨rfl, hJ3, hc3⟩ | ⟨rfl, hJx3⟩)
                    · have hR3 := hc3.row (show (wr.drewN nq).rowIs w.heap.size 28 7 (wF W) from hRi)
                      gi_wp2
                      go_roundw
                      case rel => first | exact ⟨i + 1, by omega, by go_num, by rw [part_succ, show (decide ((0 : Nat) = 0) && skipB (W.at i) W.ib) = false by rw [hs.out]; rfl]; simpa using hJ3, hR3⟩ | ((repeat apply Exists.intro); refine ⟨?_, rfl⟩; exact ⟨i + 1, by omega, by go_num, by rw [part_succ, show (decide ((0 : Nat) = 0) && skipB (W.at i) W.ib) = false by rw [hs.out]; rfl]; simpa using hJ3, hR3⟩)
                      case measure => simp [intOf]; omega
                    · gi_wp2
                      refine bodyPost_ret (results_none rfl _ _ _) rfl ?_
                      exact ⟨⟨_, rfl⟩, .inr ⟨_, come_prefix W (by omega) hin (show (decide ((0 : Nat) = 0) && skipB (W.at i) W.ib) = false by rw [hs.out]; rfl), hJx3⟩⟩
                  · have hs := Lib.hid hs0
                    unfold skipB at hs0
                    gi_wp2
                    refine wpIn_wide.2 ?_
                    go_quiet (fail)
                    gi_wp2
                    go_roundw
                    case rel => first | exact ⟨i + 1, by omega, by go_num, by rw [part_succ, show (decide ((0 : Nat) = 0) && skipB (W.at i) W.ib) = true by rw [hs.out]; rfl]; simpa using hJd _ _ nq hJi, hRi⟩ | ((repeat apply Exists.intro); refine ⟨?_, rfl⟩; exact ⟨i + 1, by omega, by go_num, by rw [part_succ, show (decide ((0 : Nat) = 0) && skipB (W.at i) W.ib) = true by rw [hs.out]; rfl]; simpa using hJd _ _ nq hJi, hRi⟩)
                    case measure => simp [intOf]; omega
                · obtain rfl : i = W.n := by omega
                  gi_wp2
                  go_roundw
                  case rel => first | exact ⟨0 + 1, by omega, by go_num, by rw [done_succ W (by omega)]; exact hJi, hRi⟩ | ((repeat apply Exists.intro); refine ⟨?_, rfl⟩; exact ⟨0 + 1, by omega, by go_num, by rw [done_succ W (by omega)]; exact hJi, hRi⟩)
                  case measure => simp [intOf]
            · gi_wp2
              gi_loopw [44] (fun v wr => ∃ i : Nat, i ≤ W.n ∧ v = .int .i64 i ∧ J (W.done 1 ++ W.part 1 i) wr ∧ wr.rowIs w.heap.size 28 7 (wF W)) (fun v _ => W.n - (intOf v).toNat)
              case atStart => exact ⟨0, by omega, rfl, by simpa [Ws.part] using hJk, hRk⟩
              case round =>
                clear hJk hRk
                obtain ⟨i, hi, rfl, hJi, hRi⟩ := hrel
                obtain ⟨d0, d1, d2, d3, d4, d5, d6⟩ := ws_cells hRi
                by_cases hin : i < W.n
                · have eA := at_wrap W hWk h2 i
                  gi_wp2
                  refine wpIn_wide.2 ?_
                  go_quiet (fail)
                  obtain ⟨fn, tmps, assign, body, hy, hR⟩ := hY _ (W.at i) (wr.drewN nq) (hJd _ _ _ hJi) (come_prefix W (by omega) hin (show (decide ((1 : Nat) = 0) && skipB (W.at i) W.ib) = false from rfl))
                  gi_wp2
                  refine hR.mono ?_
                  rintro e W3 (⟨rfl, hJ3, hc3⟩ | ⟨rfl, hJx3⟩)
                  · have hR3 := hc3.row (show (wr.drewN nq).rowIs w.heap.size 28 7 (wF W) from hRi)
                    gi_wp2
                    go_roundw
                    case rel => first | exact ⟨i + 1, by omega, by go_num, by rw [part_succ, show (decide ((1 : Nat) = 0) && skipB (W.at i) W.ib) = false from rfl]; simpa using hJ3, hR3⟩ | ((repeat apply Exists.intro); refine ⟨?_, rfl⟩; exact ⟨i + 1, by omega, by go_num, by rw [part_succ, show (decide ((1 : Nat) = 0) && skipB (W.at i) W.ib) = false from rfl]; simpa using hJ3, hR3⟩)
                    case measure => simp [intOf]; omega
                  · gi_wp2
                    refine bodyPost_ret (results_none rfl _ _ _) rfl ?_
                    exact ⟨⟨_, rfl⟩, .inr ⟨_, come_prefix W (by omega) hin (show (decide ((1 : Nat) = 0) && skipB (W.at i) W.ib) = false from rfl), hJx3⟩⟩
                · obtain rfl : i = W.n := by omega
                  gi_wp2
                  go_roundw
                  case rel => first | exact ⟨1 + 1, by omega, by go_num, by rw [done_succ W (by omega)]; exact hJi, hRi⟩ | ((repeat apply Exists.intro); refine ⟨?_, rfl⟩; exact ⟨1 + 1, by omega, by go_num, by rw [done_succ W (by omega)]; exact hJi, hRi⟩)
                  case measure => simp [intOf]
          · obtain rfl : k = 2 := by omega
            gi_wp2
            go_end0
            exact ⟨⟨_, rfl⟩, .inl hJk⟩
      · gi_wp2
        refine bodyPost_ret (results_none rfl _ _ _) rfl ?_
        exact ⟨⟨_, rfl⟩, .inr ⟨_, hpre, hJx3⟩⟩
    · have hO : W.own = [] := if_neg (by omega)
      have b2 : decide ((W.ib : Int) ≤ W.tu) = false := decide_eq_false (by omega)
      have hJ0 : J (W.done 0) (w.alloc (.cells (wcells W) 28)) := by simp only [Ws.done, hO]; exact hJa _ _ _ h0
      have hRw := hR0
      gi_wp2
      refine ⟨fun _ h => (by cases h), ?_⟩
      gi_wp2
      gi_loopw [40] (fun v wr => ∃ k : Nat, k ≤ 2 ∧ v = .int .i64 k ∧ J (W.done k) wr ∧ wr.rowIs w.heap.size 28 7 (wF W)) (fun v _ => 2 - (intOf v).toNat)
      case atStart => exact ⟨0, by omega, rfl, hJ0, hRw⟩
      case round =>
        clear hJ0 hRw d0 d1 d2 d3 d4 d5 d6 hR0 h0
        obtain ⟨k, hk, rfl, hJk, hRk⟩ := hrel
        by_cases hk2 : k < 2
        · have hkk : k = 0 ∨ k = 1 := by omega
          rcases hkk with rfl | rfl
          · gi_wp2
            gi_loopw [44] (fun v wr => ∃ i : Nat, i ≤ W.n ∧ v = .int .i64 i ∧ J (W.done 0 ++ W.part 0 i) wr ∧ wr.rowIs w.heap.size 28 7 (wF W)) (fun v _ => W.n - (intOf v).toNat)
            case atStart => exact ⟨0, by omega, rfl, by simpa [Ws.part] using hJk, hRk⟩
            case round =>
              clear hJk hRk
              obtain ⟨i, hi, rfl, hJi, hRi⟩ := hrel
              obtain ⟨d0, d1, d2, d3, d4, d5, d6⟩ := ws_cells hRi
              by_cases hin : i < W.n
              · have eA := at_wrap W hWk h2 i
                cases hs0 : skipB (W.at i) W.ib
                · have hs := Lib.hid hs0
                  unfold skipB at hs0
                  gi_wp2
                  refine wpIn_wide.2 ?_
                  go_quiet (fail)
                  obtain ⟨fn, tmps, assign, body, hy, hR⟩ := hY _ (W.at i) (wr.drewN nq) (hJd _ _ _ hJi) (come_prefix W (by omega) hin (show (decide ((0 : Nat) = 0) && skipB (W.at i) W.ib) = false by rw [hs.out]; rfl))
                  gi_wp2
                  refine hR.mono ?_
                  rintro e W3 (⟨rfl, hJ3, hc3⟩ | ⟨rfl, hJx3⟩)
                  · have hR3 := hc3.row (show (wr.drewN nq).rowIs w.heap.size 28 7 (wF W) from hRi)
                    gi_wp2
                    go_roundw
                    case rel => first | exact ⟨i + 1, by omega, by go_num, by rw [part_succ, show (decide ((0 : Nat) = 0) && skipB (W.at i) W.ib) = false by rw [hs.out]; rfl]; simpa using hJ3, hR3⟩ | ((repeat apply Exists.intro); refine ⟨?_, rfl⟩; exact ⟨i + 1, by omega, by go_num, by rw [part_succ, show (decide ((0 : Nat) = 0) && skipB (W.at i) W.ib) = false by rw [hs.out]; rfl]; simpa using hJ3, hR3⟩)
                    case measure => simp [intOf]; omega
                  · gi_wp2
                    refine bodyPost_ret (results_none rfl _ _ _) rfl ?_
                    exact ⟨⟨_, rfl⟩, .inr ⟨_, come_prefix W (by omega) hin (show (decide ((0 : Nat) = 0) && skipB (W.at i) W.ib) = false by rw [hs.out]; rfl), hJx3⟩⟩
                · have hs := Lib.hid hs0
                  unfold skipB at hs0
                  gi_wp2
                  refine wpIn_wide.2 ?_
                  go_quiet (fail)
                  gi_wp2
                  go_roundw
                  case rel => first | exact ⟨i + 1, by omega, by go_num, by rw [part_succ, show (decide ((0 : Nat) = 0) && skipB (W.at i) W.ib) = true by rw [hs.out]; rfl]; simpa using hJd _ _ nq hJi, hRi⟩ | ((repeat apply Exists.intro); refine ⟨?_, rfl⟩; exact ⟨i + 1, by omega, by go_num, by rw [part_succ, show (decide ((0 : Nat) = 0) && skipB (W.at i) W.ib) = true by rw [hs.out]; rfl]; simpa using hJd _ _ nq hJi, hRi⟩)
                  case measure => simp [intOf]; omega
              · obtain rfl : i = W.n := by omega
                gi_wp2
                go_roundw
                case rel => first | exact ⟨0 + 1, by omega, by go_num, by rw [done_succ W (by omega)]; exact hJi, hRi⟩ | ((repeat apply Exists.intro); refine ⟨?_, rfl⟩; exact ⟨0 + 1, by omega, by go_num, by rw [done_succ W (by omega)]; exact hJi, hRi⟩)
                case measure => simp [intOf]
          · gi_wp2
            gi_loopw [44] (fun v wr => ∃ i : Nat, i ≤ W.n ∧ v = .int .i64 i ∧ J (W.done 1 ++ W.part 1 i) wr ∧ wr.rowIs w.heap.size 28 7 (wF W)) (fun v _ => W.n - (intOf v).toNat)
            case atStart => exact ⟨0, by omega, rfl, by simpa [Ws.part] using hJk, hRk⟩
            case round =>
              clear hJk hRk
              obtain ⟨i, hi, rfl, hJi, hRi⟩ := hrel
              obtain ⟨d0, d1, d2, d3, d4, d5, d6⟩ := ws_cells hRi
              by_cases hin : i < W.n
              · have eA := at_wrap W hWk h2 i
                gi_wp2
                refine wpIn_wide.2 ?_
                go_quiet (fail)
                obtain ⟨fn, tmps, assign, body, hy, hR⟩ := hY _ (W.at i) (wr.drewN nq) (hJd _ _ _ hJi) (come_prefix W (by omega) hin (show (decide ((1 : Nat) = 0) && skipB (W.at i) W.ib) = false from rfl))
                gi_wp2
                refine hR.mono ?_
                rintro e W3 (⟨rfl, hJ3, hc3⟩ | ⟨rfl, hJx3⟩)
                · have hR3 := hc3.row (show (wr.drewN nq).rowIs w.heap.size 28 7 (wF W) from hRi)
                  gi_wp2
                  go_roundw
                  case rel => first | exact ⟨i + 1, by omega, by go_num, by rw [part_succ, show (decide ((1 : Nat) = 0) && skipB (W.at i) W.ib) = false from rfl]; simpa using hJ3, hR3⟩ | ((repeat apply Exists.intro); refine ⟨?_, rfl⟩; exact ⟨i + 1, by omega, by go_num, by rw [part_succ, show (decide ((1 : Nat) = 0) && skipB (W.at i) W.ib) = false from rfl]; simpa using hJ3, hR3⟩)
                  case measure => simp [intOf]; omega
                · gi_wp2
                  refine bodyPost_ret (results_none rfl _ _ _) rfl ?_
                  exact ⟨⟨_, rfl⟩, .inr ⟨_, come_prefix W (by omega) hin (show (decide ((1 : Nat) = 0) && skipB (W.at i) W.ib) = false from rfl), hJx3⟩⟩
              · obtain rfl : i = W.n := by omega
                gi_wp2
                go_roundw
                case rel => first | exact ⟨1 + 1, by omega, by go_num, by rw [done_succ W (by omega)]; exact hJi, hRi⟩ | ((repeat apply Exists.intro); refine ⟨?_, rfl⟩; exact ⟨1 + 1, by omega, by go_num, by rw [done_succ W (by omega)]; exact hJi, hRi⟩)
                case measure => simp [intOf]
        · obtain rfl : k = 2 := by omega
          gi_wp2
          go_end0
          exact ⟨⟨_, rfl⟩, .inl hJk⟩
  · have hO : W.own = [] := if_neg (by omega)
    have b1 : decide ((W.fr : Int) ≤ W.ib) = false := decide_eq_false (by omega)
    have hJ0 : J (W.done 0) (w.alloc (.cells (wcells W) 28)) := by simp only [Ws.done, hO]; exact hJa _ _ _ h0
    have hRw := hR0
    gi_wp2
    refine ⟨fun _ h => (by cases h), ?_⟩
    gi_wp2
    gi_loopw [40] (fun v wr => ∃ k : Nat, k ≤ 2 ∧ v = .int .i64 k ∧ J (W.done k) wr ∧ wr.rowIs w.heap.size 28 7 (wF W)) (fun v _ => 2 - (intOf v).toNat)
    case atStart => exact ⟨0, by omega, rfl, hJ0, hRw⟩
    case round =>
      clear hJ0 hRw d0 d1 d2 d3 d4 d5 d6 hR0 h0
      obtain ⟨k, hk, rfl, hJk, hRk⟩ := hrel
      by_cases hk2 : k < 2
      · have hkk : k = 0 ∨ k = 1 := by omega
        rcases hkk with rfl | rfl
        · gi_wp2
          gi_loopw [44] (fun v wr => ∃ i : Nat, i ≤ W.n ∧ v = .int .i64 i ∧ J (W.done 0 ++ W.part 0 i) wr ∧ wr.rowIs w.heap.size 28 7 (wF W)) (fun v _ => W.n - (intOf v).toNat)
          case atStart => exact ⟨0, by omega, rfl, by simpa [Ws.part] using hJk, hRk⟩
          case round =>
            clear hJk hRk
            obtain ⟨i, hi, rfl, hJi, hRi⟩ := hrel
            obtain ⟨d0, d1, d2, d3, d4, d5, d6⟩ := ws_cells hRi
            by_cases hin : i < W.n
            · have eA := at_wrap W hWk h2 i
              cases hs0 : skipB (W.at i) W.ib
              · have hs := Lib.hid hs0
                unfold skipB at hs0
                gi_wp2
                refine wpIn_wide.2 ?_
                go_quiet (fail)
                obtain ⟨fn, tmps, assign, body, hy, hR⟩ := hY _ (W.at i) (wr.drewN nq) (hJd _ _ _ hJi) (come_prefix W (by omega) hin (show (decide ((0 : Nat) = 0) && skipB (W.at i) W.ib) = false by rw [hs.out]; rfl))
                gi_wp2
                refine hR.mono ?_
                rintro e W3 (⟨rfl, hJ3, hc3⟩ | ⟨rfl, hJx3⟩)
                · have hR3 := hc3.row (show (wr.drewN nq).rowIs w.heap.size 28 7 (wF W) from hRi)
                  gi_wp2
                  go_roundw
                  case rel => first | exact ⟨i + 1, by omega, by go_num, by rw [part_succ, show (decide ((0 : Nat) = 0) && skipB (W.at i) W.ib) = false by rw [hs.out]; rfl]; simpa using hJ3, hR3⟩ | ((repeat apply Exists.intro); refine ⟨?_, rfl⟩; exact ⟨i + 1, by omega, by go_num, by rw [part_succ, show (decide ((0 : Nat) = 0) && skipB (W.at i) W.ib) = false by rw [hs.out]; rfl]; simpa using hJ3, hR3⟩)
                  case measure => simp [intOf]; omega
                · gi_wp2
                  refine bodyPost_ret (results_none rfl _ _ _) rfl ?_
                  exact ⟨⟨_, rfl⟩, .inr ⟨_, come_prefix W (by omega) hin (show (decide ((0 : Nat) = 0) && skipB (W.at i) W.ib) = false by rw [hs.out]; rfl), hJx3⟩⟩
              · have hs := Lib.hid hs0
                unfold skipB at hs0
                gi_wp2
                refine wpIn_wide.2 ?_
                go_quiet (fail)
                gi_wp2
                go_roundw
                case rel => first | exact ⟨i + 1, by omega, by go_num, by rw [part_succ, show (decide ((0 : Nat) = 0) && skipB (W.at i) W.ib) = true by rw [hs.out]; rfl]; simpa using hJd _ _ nq hJi, hRi⟩ | ((repeat apply Exists.intro); refine ⟨?_, rfl⟩; exact ⟨i + 1, by omega, by go_num, by rw [part_succ, show (decide ((0 : Nat) = 0) && skipB (W.at i) W.ib) = true by rw [hs.out]; rfl]; simpa using hJd _ _ nq hJi, hRi⟩)
                case measure => simp [intOf]; omega
            · obtain rfl : i = W.n := by omega
              gi_wp2
              go_roundw
              case rel => first | exact ⟨0 + 1, by omega, by go_num, by rw [done_succ W (by omega)]; exact hJi, hRi⟩ | ((repeat apply Exists.intro); refine ⟨?_, rfl⟩; exact ⟨0 + 1, by omega, by go_num, by rw [done_succ W (by omega)]; exact hJi, hRi⟩)
              case measure => simp [intOf]
        · gi_wp2
          gi_loopw [44] (fun v wr => ∃ i : Nat, i ≤ W.n ∧ v = .int .i64 i ∧ J (W.done 1 ++ W.part 1 i) wr ∧ wr.rowIs w.heap.size 28 7 (wF W)) (fun v _ => W.n - (intOf v).toNat)
          case atStart => exact ⟨0, by omega, rfl, by simpa [Ws.part] using hJk, hRk⟩
          case round =>
            clear hJk hRk
            obtain ⟨i, hi, rfl, hJi, hRi⟩ := hrel
            obtain ⟨d0, d1, d2, d3, d4, d5, d6⟩ := ws_cells hRi
            by_cases hin : i < W.n
            · have eA := at_wrap W hWk h2 i
              gi_wp2
              refine wpIn_wide.2 ?_
              go_quiet (fail)
              obtain ⟨fn, tmps, assign, body, hy, hR⟩ := hY _ (W.at i) (wr.drewN nq) (hJd _ _ _ hJi) (come_prefix W (by omega) hin (show (decide ((1 : Nat) = 0) && skipB (W.at i) W.ib) = false from rfl))
              gi_wp2
              refine hR.mono ?_
              rintro e W3 (⟨rfl, hJ3, hc3⟩ | ⟨rfl, hJx3⟩)
              · have hR3 := hc3.row (show (wr.drewN nq).rowIs w.heap.size 28 7 (wF W) from hRi)
                gi_wp2
                go_roundw
                case rel => first | exact ⟨i + 1, by omega, by go_num, by rw [part_succ, show (decide ((1 : Nat) = 0) && skipB (W.at i) W.ib) = false from rfl]; simpa using hJ3, hR3⟩ | ((repeat apply Exists.intro); refine ⟨?_, rfl⟩; exact ⟨i + 1, by omega, by go_num, by rw [part_succ, show (decide ((1 : Nat) = 0) && skipB (W.at i) W.ib) = false from rfl]; simpa using hJ3, hR3⟩)
                case measure => simp [intOf]; omega
              · gi_wp2
                refine bodyPost_ret (results_none rfl _ _ _) rfl ?_
                exact ⟨⟨_, rfl⟩, .inr ⟨_, come_prefix W (by omega) hin (show (decide ((1 : Nat) = 0) && skipB (W.at i) W.ib) = false from rfl), hJx3⟩⟩
            · obtain rfl : i = W.n := by omega
              gi_wp2
              go_roundw
              case rel => first | exact ⟨1 + 1, by omega, by go_num, by rw [done_succ W (by omega)]; exact hJi, hRi⟩ | ((repeat apply Exists.intro); refine ⟨?_, rfl⟩; exact ⟨1 + 1, by omega, by go_num, by rw [done_succ W (by omega)]; exact hJi, hRi⟩)
              case measure => simp [intOf]
      · obtain rfl : k = 2 := by omega
        gi_wp2
        go_end0
        exact ⟨⟨_, rfl⟩, .inl hJk⟩
end Go.Proofs.Ytfiblchdfacdiaa
