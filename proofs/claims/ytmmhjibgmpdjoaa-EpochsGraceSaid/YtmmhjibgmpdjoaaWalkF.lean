/- math/bits.Mul by one, slices.Repeat of one number, and epochs' New, walked. -/
import Derived.Test.YtmmhjibgmpdjoaaWalkD
import Derived.Laws.CopyOwn
import Derived.Deep.RegionLaw
namespace Go.Proofs.Ytmmhjibgmpdjoaa
open Go Go.RowKit Go.Deep Md

theorem Mul64_any (w : World) (n : Nat) (hn : n ≤ 64) :
    Calls Try.prog 44 #[.int .u64 1, .int .u64 n] w fun e w' => e = .returned (.tuple #[.int .u64 0, .int .u64 n]) ∧ w = w' := by
  have b1 : bits .and .u64 (n : Int) 4294967295 = (n : Int) := by
    have : ∀ k : Fin 65, bits .and .u64 ((k.val : Nat) : Int) 4294967295 = ((k.val : Nat) : Int) := by decide +kernel
    exact this ⟨n, by omega⟩
  have b2 : bits .and .u64 (1 : Int) 4294967295 = (1 : Int) := by decide +kernel
  have d1 : (n : Int) / 4294967296 = 0 := by omega
  go_enter Try.func44, Try.ntmps44
  go_wp2
  go_ret2
  exact ⟨rfl, rfl⟩
theorem Mul_any (w : World) (n : Nat) (hn : n ≤ 64) :
    Calls Try.prog 40 #[.int .u64 1, .int .u64 n] w fun e w' => e = .returned (.tuple #[.int .u64 0, .int .u64 n]) ∧ w = w' := by
  go_enter Try.func40, Try.ntmps40
  go_wp2_with (go_at_call 44; refine (Mul64_any _ n hn).mono ?_; rintro e w' ⟨rfl, rfl⟩)
  go_ret2
  exact ⟨rfl, rfl⟩

theorem splice_rep (m n k : Nat) (a z : Value) (h1 : m ≤ n) (h2 : m + k ≤ n) : splice (List.replicate m a ++ List.replicate (n - m) z) m (List.replicate k a) = List.replicate (m + k) a ++ List.replicate (n - (m + k)) z := by
  apply List.ext_getElem
  · simp [splice]; omega
  · intro i h3 h4
    simp only [splice, List.length_append, List.length_replicate, List.length_take, List.length_drop] at h3 h4
    simp only [splice, List.getElem_append, List.getElem_take, List.getElem_drop, List.getElem_replicate, List.length_take, List.length_append, List.length_replicate]
    split <;> split <;> (try split) <;> (try split) <;> first | rfl | omega
theorem Try.info3 : (Try.prog.info? 3).map (fun i => (i.zero, i.size, i.bytes)) = some (some (.int .i64 0), 1, 8) := by kernel_rfl
theorem Try.size3 : (Try.prog.info? 3).map (·.size) = some 1 := by kernel_rfl
theorem made_rep (z : Value) (n : Nat) : madeCells #[z] n = (List.replicate n z).toArray := by
  apply Array.ext
  · simp [madeCells]
  · intro i h1 h2
    simp [madeCells, Nat.mod_one]
/-- m of n are minus one. -/
def repL (n m : Nat) : List Value := List.replicate m (Value.int .i64 (-1)) ++ List.replicate (n - m) (Value.int .i64 0)
theorem src_rep {w : World} {g m n k : Nat} (hg : w.heap[g]? = some (.cells (repL n m).toArray 3 (0, 0))) (hk : k ≤ m) : ∀ (j : Nat) (v : Value), (List.replicate k (Value.int .i64 (-1)))[j]? = some v → w.cell? ((⟨g, 0, none⟩ : Addr).add j) = some v := by
  intro j v hj
  rw [Addr.add_lit, Nat.zero_add, cell_of_row w g j _ 3 (0, 0) hg]
  have hjk : j < k := by
    rcases Nat.lt_or_ge j k with h | h
    · exact h
    · rw [List.getElem?_eq_none (by simpa using h)] at hj; cases hj
  rw [List.getElem?_replicate, if_pos hjk] at hj
  rw [List.getElem?_toArray]; unfold repL; rw [List.getElem?_append_left (by simp; omega), List.getElem?_replicate, if_pos (by omega)]
  exact hj
/-- What Repeat leaves: a row of one number. -/
def RepPost (n : Nat) (w : World) (e : Ending) (w' : World) : Prop := e = .returned (.slice (some ⟨w.heap.size, 0, none⟩) n n) ∧ w'.heap[w.heap.size]? = some (.cells (Array.replicate n (.int .i64 (-1))) 3 (0, 0)) ∧ Below w.heap.size w w'
set_option maxRecDepth 100000 in
set_option maxHeartbeats 1000000 in
theorem Repeat_any (w : World) (q n : Nat) (hc : w.cell? ⟨q, 0, none⟩ = some (.int .i64 (-1))) (h1 : 1 ≤ n) (h2 : n ≤ 64) :
    Calls Try.prog 30 #[.slice (some ⟨q, 0, none⟩) 1 1, .int .i64 n] w (RepPost n w) := by
  have hmk := run_make_row' (P := Try.prog) 36 3 (.int .i64 0) 8 Try.underlying36 Try.info3 rfl .i64 .i64 n (by omega) (by omega)
  have hq := World.block_lt_of_cell? w _ hc
  go_enter Try.func30, Try.ntmps30
  have hqc := keep_alloc hc (.cells (madeCells #[.int .i64 0] n) 3)
  go_wp2_with (first
    | (go_at_call 40; refine (Mul_any _ n h2).mono ?_; rintro e w' ⟨rfl, rfl⟩)
    | (with_reducible refine wpList_copy_splice rfl (.tmp 31) (.tmp 32) 36 36 rfl 3 Try.underlying36 Try.size3 (some ⟨w.heap.size, 0, none⟩) (some ⟨q, 0, none⟩) n n 1 1 rfl rfl w.heap.size 0 (List.replicate n (.int .i64 0)) 3 ?d1 [.int .i64 (-1)] ?d2 ?d3 ?d4 (one_one _ _) w.heap.size w ?d5 (Nat.le_refl _) ?_))
  case d1 => rw [← made_rep]; exact heap_alloc_new w _
  case d2 => exact (Nat.min_eq_left h1).symm
  case d3 =>
    intro j v hj
    match j, hj with
    | 0, hj => simp at hj; subst hj; exact hc
  case d4 => simp; omega
  case d5 => exact (Below.refl _ _).alloc (Nat.le_refl _) _
  intro w1 HG hB
  have hs1 : splice (List.replicate n (Value.int .i64 0)) 0 [Value.int .i64 (-1)] = repL n 1 := by
    have := splice_rep 0 n 1 (.int .i64 (-1)) (.int .i64 0) (by omega) (by omega)
    simpa [repL] using this
  have HG1 : Hid (w1.heap[w.heap.size]? = some (.cells (repL n 1).toArray 3 (0, 0))) := by rw [← hs1]; exact HG
  clear HG hs1 hmk hqc hc
  go_wp2_with fail
  go_loopw [8] (fun v wr => ∃ m : Nat, 1 ≤ m ∧ m ≤ n ∧ v = .int .i64 m ∧ Hid (wr.heap[w.heap.size]? = some (.cells (repL n m).toArray 3 (0, 0))) ∧ Below w.heap.size w wr)
    (fun v _ => n - (intOf v).toNat)
  case atStart => exact ⟨1, by omega, by omega, rfl, HG1, hB⟩
  case round =>
    clear HG1 hB
    obtain ⟨m, hm1, hm2, rfl, HG, hB⟩ := hrel
    by_cases hlt : m < n
    · obtain ⟨k, hk⟩ : ∃ k, k = Nat.min m (n - m) := ⟨_, rfl⟩
      have hk1 : 1 ≤ k := by rw [hk]; exact Nat.le_min.2 ⟨by omega, by omega⟩
      have hk2 : k ≤ n - m := by rw [hk]; exact Nat.min_le_right _ _
      have hk3 : k ≤ m := by rw [hk]; exact Nat.min_le_left _ _
      have HK := Lib.hid hk
      have hwr : IntKind.i64.wrap ((m : Int) + (k : Int)) = (m : Int) + (k : Int) := IntWalk.i64_in _ (by omega)
      have z0 : (0 : Int) ≤ (m : Int) := by omega
      have z1 : (m : Int) ≤ (n : Int) := by omega
      have hnm : ¬ n = m := by omega
      clear hk
      go_wp2_with fail
      go_region_law (first | ((refine step_copy_splice (by rfl) (.tmp 41) (.tmp 44) 36 36 (by rfl) 3 Try.underlying36 Try.size3 (some ⟨w.heap.size, m, none⟩) (some ⟨w.heap.size, 0, none⟩) (n - m) (n - m) m n (by simp [Act.eval, Act.put]) (by simp [Act.eval, Act.put]) w.heap.size m (repL n m) 3 HG.out (List.replicate k (Value.int .i64 (-1))) (by simpa using HK.out) (fun _ => ⟨rfl, _, rfl, src_rep HG.out hk3⟩) (by simp [repL]; omega) (fun v hv => by rw [List.eq_of_mem_replicate hv]; rfl) w.heap.size w ⟨hB.os, hB.tape, hB.output, hB.size, hB.block⟩ (Nat.le_refl _) ?_; intro w4 hg4 hb4)))
      all_goals go_wp2
      all_goals
        have hsp : splice (repL n m) m (List.replicate k (Value.int .i64 (-1))) = repL n (m + k) := splice_rep m n k _ _ (by omega) (by omega)
        have hg5 : Hid (w4.heap[w.heap.size]? = some (.cells (repL n (m + k)).toArray 3 (0, 0))) := by rw [← hsp]; exact hg4
        go_roundw
        case rel =>
          (repeat apply Exists.intro)
          refine ⟨?_, rfl⟩
          exact ⟨m + k, by omega, by omega, by first | go_num | (simp [goInt]; done) | rfl, hg5, hb4⟩
        case measure =>
          simp [intOf, goInt, hwr, Act.put]
          omega
    · obtain rfl : n = m := by omega
      go_wp2
      go_ret
      refine ⟨rfl, ?_, hB⟩
      have := HG.out
      simpa [repL] using this

/-- What New leaves. -/
def NewPost (n : Nat) (w : World) (e : Ending) (w' : World) : Prop := ∃ x g, e = .returned (.tuple #[.pointer (some ⟨x, 0, none⟩), .int .i64 0]) ∧ EpAt w' x g (.slice none 0 0) (fresh n) ∧ Upto NoS w w' ∧ w.heap.size ≤ g
theorem wAt_fresh (n i : Nat) : wAt (List.replicate n (-1)) i = -1 := by
  unfold wAt
  by_cases h : i < n <;> simp [h]
theorem New_ok (w : World) (n : Nat) (h1 : 1 ≤ n) (h2 : n ≤ 64) : Calls Try.prog 8 #[.int .i64 n] w (NewPost n w) := by
  have c0 := new_1 w #[.int .i64 (-1)] 3 0 (.int .i64 (-1)) rfl
  go_enter Try.func8, Try.ntmps8
  go_wp2_with (go_at_call 30; refine (Repeat_any _ _ n c0 h1 h2).mono ?_; rintro e w1 ⟨rfl, hg, hB⟩)
  have hs := hB.size
  simp only [World.size_alloc] at hs hg
  have hr : w1.rowIs (w.heap.size + 1) 3 n (fun i => .int .i64 (wAt (List.replicate n (-1)) i)) :=
    ⟨_, hg, by simp, fun i hi => by show _ = some (Value.int .i64 (wAt (List.replicate n (-1)) i)); rw [wAt_fresh]; simp [hi]⟩
  have hlr := hr.lt
  have hu : Upto NoS w w1 := ((Upto.refl NoS w).alloc (.cells #[.int .i64 (-1)] 3)).trans (Upto.of_below (S := NoS) hB)
  have hE : EpAt (w1.alloc (.cells #[.int .i64 0, .slice (some ⟨w.heap.size + 1, 0, none⟩) n n, .slice none 0 0] 44)) w1.heap.size (w.heap.size + 1) (.slice none 0 0) (fresh n) := by
    have hl : (fresh n).ws.length = n := by simp [fresh]
    refine ⟨World.rowIs_alloc _ _ _ _ (fun i hi => ?_), by rw [hl]; exact hr.alloc _, World.ownsRow_nil _ _ _ _, by omega, ⟨by show 0 ≤ _; omega, by rw [hl]; exact h1, by rw [hl]; exact h2, fun i => ?_, by show 0 ≤ _; omega, fun j hj => by simp [fresh] at hj⟩⟩
    · rw [hl]
      match i, hi with
      | 0, _ => rfl
      | 1, _ => rfl
      | 2, _ => rfl
    · have : wAt (fresh n).ws i = -1 := wAt_fresh n i
      rw [this]; show _ ∧ _ ≤ ((0 : Nat) : Int); omega
  have HE := Lib.hid hE
  go_ret2
  exact ⟨w1.heap.size, w.heap.size + 1, rfl, HE.out, hu.alloc _, by omega⟩
theorem New_err (w : World) (n : Int) (h : n < 1 ∨ 64 < n) : Calls Try.prog 8 #[.int .i64 n] w fun e w' => e = .returned (.tuple #[.pointer none, .int .i64 2]) ∧ w = w' := by
  rcases h with h | h
  · go_enter Try.func8, Try.ntmps8
    go_wp2
    go_ret2
    exact ⟨rfl, rfl⟩
  · have h' : ¬ n < 1 := by omega
    go_enter Try.func8, Try.ntmps8
    go_wp2
    go_ret2
    exact ⟨rfl, rfl⟩
end Go.Proofs.Ytmmhjibgmpdjoaa
