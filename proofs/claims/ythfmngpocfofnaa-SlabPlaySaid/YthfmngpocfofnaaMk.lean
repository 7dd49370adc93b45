/- Slots by a function of their number: what the acts do to them. Plain Lean. -/
import Derived.Test.YthfmngpocfofnaaModel
import Derived.Test.YthfmngpocfofnaaWalkE
namespace Go.Proofs.Ythfmngpocfofnaa
namespace Md
def mk (n : Nat) (f : Nat → Nat × Nat) : St := (List.range n).map f
theorem mk_length (n : Nat) (f : Nat → Nat × Nat) : (mk n f).length = n := by simp [mk]
theorem stateOf_mk {n i : Nat} {f : Nat → Nat × Nat} (h : i < n) : stateOf (mk n f) i = (f i).1 := by simp [stateOf, mk, h]
theorem genOf_mk {n i : Nat} {f : Nat → Nat × Nat} (h : i < n) : genOf (mk n f) i = (f i).2 := by simp [genOf, mk, h]
theorem mk_congr {n : Nat} {f g : Nat → Nat × Nat} (h : ∀ i, i < n → f i = g i) : mk n f = mk n g := by
  unfold mk; exact List.map_congr_left fun i hi => h i (by simpa using hi)
theorem set_mk {n i : Nat} {f : Nat → Nat × Nat} (v : Nat × Nat) : (mk n f).set i v = mk n (fun j => if j = i then v else f j) := by
  unfold mk
  apply List.ext_getElem?
  intro j
  rw [List.getElem?_set, List.getElem?_map, List.getElem?_map]
  by_cases e : i = j
  · subst e
    by_cases h : i < n <;> simp [h]
  · rw [if_neg e]
    by_cases h : j < n <;> simp [h, Ne.symm e]
theorem turn_mk {n i s : Nat} {f : Nat → Nat × Nat} (h : i < n) : turn (mk n f) i s = mk n (fun j => if j = i then (s, (f i).2) else f j) := by
  unfold turn; rw [genOf_mk h, set_mk]
theorem leave_mk {n i s : Nat} {f : Nat → Nat × Nat} (h : i < n) : leave (mk n f) i s = mk n (fun j => if j = i then (s, ((f i).2 + 1) % 4294967296) else f j) := by
  unfold leave; rw [genOf_mk h, set_mk]
theorem fresh_mk (n : Nat) : fresh n = mk n (fun _ => (0, 1)) := by
  apply List.ext_getElem (by simp [fresh, mk])
  intro i h1 h2
  simp [fresh, mk]
theorem liveB_mk {n i g : Nat} {f : Nat → Nat × Nat} (h : i < n) : liveB (mk n f) i g = decide (f i = (1, g)) := by
  unfold liveB
  rw [mk_length, Int.toNat_natCast, stateOf_mk h, genOf_mk h, Bool.eq_iff_iff]
  simp only [Bool.and_eq_true, decide_eq_true_eq, beq_iff_eq, Prod.ext_iff]
  omega
theorem take_mk {n i : Nat} {f : Nat → Nat × Nat} (h : i < n) (h0 : (f i).1 = 0) (hlt : ∀ j, j < i → (f j).1 ≠ 0) :
    takeSt (mk n f) = mk n (fun j => if j = i then (1, (f i).2) else f j) ∧ takeV (mk n f) = .tuple #[hv i (f i).2, .int .i64 0] := by
  have hf : firstFree (mk n f) = some i := firstFree_of (by rw [mk_length]; exact h) (by rw [stateOf_mk h]; exact h0) (fun j hj => by rw [stateOf_mk (by omega)]; exact hlt j hj)
  refine ⟨?_, ?_⟩
  · rw [takeSt, hf]; exact turn_mk h
  · rw [takeV, hf]; show Value.tuple #[hv i (genOf (mk n f) i), .int .i64 0] = _; rw [genOf_mk h]
theorem take_mk_none {n : Nat} {f : Nat → Nat × Nat} (hall : ∀ j, j < n → (f j).1 ≠ 0) : takeSt (mk n f) = mk n f ∧ takeV (mk n f) = .tuple #[hv 0 0, .int .i64 8] := by
  have hf : firstFree (mk n f) = none := firstFree_none (fun j hj => by rw [mk_length] at hj; rw [stateOf_mk hj]; exact hall j hj)
  exact ⟨by rw [takeSt, hf], by rw [takeV, hf]⟩
theorem give_mk {n i g s : Nat} {f : Nat → Nat × Nat} (h : i < n) :
    leaveSt (mk n f) i g s = (if f i = (1, g) then mk n (fun j => if j = i then (s, (g + 1) % 4294967296) else f j) else mk n f) ∧ leaveE (mk n f) i g = (if f i = (1, g) then 0 else 9) := by
  unfold leaveSt leaveE
  rw [liveB_mk h]
  by_cases e : f i = (1, g)
  · simp only [e, decide_true, if_true, Int.toNat_natCast]
    exact ⟨by rw [leave_mk h, e], trivial⟩
  · simp [e]

/-! The three stretches of 'as many as there are': taking all, giving some back, taking those again. -/
def ph1 (n k : Nat) : St := mk n fun j => (if j < k then 1 else 0, 1)
def ph2 (n : Nat) (B : Nat → Bool) : St := mk n fun j => if B j then (0, 2) else (1, 1)
def ph3 (n : Nat) (B : Nat → Bool) (k : Nat) : St := mk n fun j => if B j then (if j < k then 1 else 0, 2) else (1, 1)
theorem fresh_ph1 (n : Nat) : fresh n = ph1 n 0 := by rw [fresh_mk]; exact mk_congr fun i _ => by simp
theorem ph1_take {n k : Nat} (h : k < n) : takeSt (ph1 n k) = ph1 n (k + 1) ∧ takeV (ph1 n k) = .tuple #[hv k 1, .int .i64 0] := by
  obtain ⟨h1, h2⟩ := take_mk (n := n) (i := k) (f := fun j => (if j < k then 1 else 0, 1)) h (by simp) (fun j hj => by simp [hj])
  refine ⟨h1.trans (mk_congr fun j _ => ?_), h2⟩
  by_cases e : j = k
  · subst e; simp
  · rw [if_neg e]
    by_cases e2 : j < k
    · rw [if_pos e2, if_pos (by omega)]
    · rw [if_neg e2, if_neg (by omega)]
theorem ph1_full (n : Nat) : takeSt (ph1 n n) = ph1 n n ∧ takeV (ph1 n n) = .tuple #[hv 0 0, .int .i64 8] := take_mk_none fun j hj => by simp [hj]
theorem ph1_live {n k : Nat} (h : k < n) : liveB (ph1 n (k + 1)) k 1 = true := by
  have := liveB_mk (n := n) (i := k) (g := 1) (f := fun j => (if j < k + 1 then 1 else 0, 1)) h
  simpa [ph1] using this
theorem ph1_ph2 (n : Nat) : ph1 n n = ph2 n (fun _ => false) := mk_congr fun i hi => by simp [hi]
theorem ph2_give {n i : Nat} {B : Nat → Bool} (h : i < n) : leaveSt (ph2 n B) i 1 0 = ph2 n (fun j => if j = i then true else B j) ∧ leaveE (ph2 n B) i 1 = (if B i then 9 else 0) := by
  obtain ⟨h1, h2⟩ := give_mk (n := n) (i := i) (g := 1) (s := 0) (f := fun j => if B j then (0, 2) else (1, 1)) h
  refine ⟨h1.trans ?_, h2.trans ?_⟩
  · cases e : B i
    · simp only [Bool.false_eq_true, if_false, if_true]
      exact mk_congr fun j _ => by by_cases e2 : j = i <;> simp [e2]
    · simp only [if_true]
      rw [if_neg (by decide)]
      exact mk_congr fun j _ => by
        by_cases e2 : j = i
        · subst e2; simp [e]
        · simp [e2]
  · cases e : B i <;> simp
theorem ph2_ph3 (n : Nat) (B : Nat → Bool) : ph2 n B = ph3 n B 0 := mk_congr fun i _ => by simp
theorem ph3_skip {n k : Nat} {B : Nat → Bool} (hb : B k = false) : ph3 n B k = ph3 n B (k + 1) := mk_congr fun j _ => by
  by_cases e : B j = true
  · have : j ≠ k := fun h => by rw [h, hb] at e; cases e
    simp only [e, if_true]
    by_cases e2 : j < k
    · rw [if_pos e2, if_pos (by omega)]
    · rw [if_neg e2, if_neg (by omega)]
  · simp [e]
theorem ph3_take {n k : Nat} {B : Nat → Bool} (h : k < n) (hb : B k = true) : takeSt (ph3 n B k) = ph3 n B (k + 1) ∧ takeV (ph3 n B k) = .tuple #[hv k 2, .int .i64 0] := by
  obtain ⟨h1, h2⟩ := take_mk (n := n) (i := k) (f := fun j => if B j then (if j < k then 1 else 0, 2) else (1, 1)) h (by simp [hb]) (fun j hj => by cases e : B j <;> simp [hj])
  refine ⟨h1.trans (mk_congr fun j _ => ?_), by rw [ph3, h2]; simp [hb]⟩
  by_cases e : j = k
  · subst e; simp [hb]
  · rw [if_neg e]
    by_cases e2 : j < k
    · simp [e2, show j < k + 1 from by omega]
    · simp [e2, show ¬ j < k + 1 from by omega]
theorem ph3_full (n : Nat) (B : Nat → Bool) : takeSt (ph3 n B n) = ph3 n B n ∧ takeV (ph3 n B n) = .tuple #[hv 0 0, .int .i64 8] := take_mk_none fun j hj => by cases e : B j <;> simp [hj]
theorem ph3_dead {n k i : Nat} {B : Nat → Bool} (h : i < n) (hb : B i = true) : liveB (ph3 n B k) i 1 = false := by
  have := liveB_mk (n := n) (i := i) (g := 1) (f := fun j => if B j then (if j < k then 1 else 0, 2) else (1, 1)) h
  rw [ph3]; exact this.trans (by simp [hb])
end Md
end Go.Proofs.Ythfmngpocfofnaa
