/- What a slab is, in plain Lean: how many slots, how each is, which time it is taken. No program in sight. -/
namespace Go.Proofs.Ythfmngpocfofnaa
namespace Md

/-- A slab's slots: how each is (0 free, 1 live, 2 gone), and its generation. -/
abbrev St := List (Nat × Nat)

def cnt (st : St) (k : Nat) : Nat := st.countP fun p => p.1 == k
def stateOf (st : St) (i : Nat) : Nat := (st.getD i (0, 1)).1
def genOf (st : St) (i : Nat) : Nat := (st.getD i (0, 1)).2
def fresh (n : Nat) : St := List.replicate n (0, 1)
/-- A slot is made how it is now, its generation as it was. -/
def turn (st : St) (i s : Nat) : St := st.set i (s, genOf st i)
/-- A slot is let go: its generation goes on. -/
def leave (st : St) (i s : Nat) : St := st.set i (s, (genOf st i + 1) % 4294967296)
/-- The first one that is free. -/
def firstFree (st : St) : Option Nat := st.findIdx? fun p => p.1 == 0
/-- Each slot is one of three ways, and its generation is a number of 32 bits. -/
def Ok (st : St) : Prop := st.length ≤ 256 ∧ ∀ i, stateOf st i ≤ 2 ∧ genOf st i < 4294967296
/-- Is a handle live? -/
def liveB (st : St) (slot gen : Int) : Bool :=
  decide (0 ≤ slot) && decide (slot < st.length) && (stateOf st slot.toNat == 1) && ((genOf st slot.toNat : Int) == gen)
def stateI (st : St) (slot : Int) : Int := if 0 ≤ slot ∧ slot < st.length then stateOf st slot.toNat else -1

theorem Ok.len {st : St} (h : Ok st) : st.length ≤ 256 := h.1
theorem stateOf_eq {st : St} {i : Nat} (h : i < st.length) : stateOf st i = st[i].1 := by simp [stateOf, h]
theorem genOf_eq {st : St} {i : Nat} (h : i < st.length) : genOf st i = st[i].2 := by simp [genOf, h]

theorem getD_set (st : St) (i j : Nat) (v d : Nat × Nat) (h : i < st.length) : (st.set i v).getD j d = if j = i then v else st.getD j d := by
  by_cases e : j = i
  · subst e; simp [h]
  · rw [if_neg e]; simp [Ne.symm e]

theorem stateOf_set (st : St) (i j : Nat) (v : Nat × Nat) (h : i < st.length) : stateOf (st.set i v) j = if j = i then v.1 else stateOf st j := by
  unfold stateOf; rw [getD_set _ _ _ _ _ h]; split <;> rfl
theorem genOf_set (st : St) (i j : Nat) (v : Nat × Nat) (h : i < st.length) : genOf (st.set i v) j = if j = i then v.2 else genOf st j := by
  unfold genOf; rw [getD_set _ _ _ _ _ h]; split <;> rfl

theorem Ok.set {st : St} (h : Ok st) {i : Nat} {v : Nat × Nat} (hi : i < st.length) (h1 : v.1 ≤ 2) (h2 : v.2 < 4294967296) : Ok (st.set i v) := by
  refine ⟨by simpa using h.1, fun j => ?_⟩
  rw [stateOf_set _ _ _ _ hi, genOf_set _ _ _ _ hi]
  split
  · exact ⟨h1, h2⟩
  · exact h.2 j
theorem Ok.turn {st : St} (h : Ok st) {i s : Nat} (hi : i < st.length) (hs : s ≤ 2) : Ok (turn st i s) := h.set hi hs (h.2 i).2
theorem Ok.leave {st : St} (h : Ok st) {i s : Nat} (hi : i < st.length) (hs : s ≤ 2) : Ok (leave st i s) := h.set hi hs (Nat.mod_lt _ (by decide))
theorem turn_length (st : St) (i s : Nat) : (turn st i s).length = st.length := by simp [turn]
theorem leave_length (st : St) (i s : Nat) : (leave st i s).length = st.length := by simp [leave]

theorem Ok.fresh {n : Nat} (h : n ≤ 256) : Ok (fresh n) := by
  refine ⟨by simpa [Md.fresh] using h, fun i => ?_⟩
  by_cases hi : i < n <;> simp [stateOf, genOf, Md.fresh, hi]

theorem cnt_set (st : St) (i k : Nat) (v : Nat × Nat) (h : i < st.length) :
    cnt (st.set i v) k = cnt st k - (if stateOf st i = k then 1 else 0) + (if v.1 = k then 1 else 0) := by
  unfold cnt
  rw [List.countP_set h, stateOf_eq h]
  simp
theorem cnt_le (st : St) (k : Nat) : cnt st k ≤ st.length := List.countP_le_length
theorem cnt_pos {st : St} {i : Nat} (h : i < st.length) : 1 ≤ cnt st (stateOf st i) := by
  unfold cnt
  rw [Nat.one_le_iff_ne_zero, Ne, List.countP_eq_zero]
  intro hall
  have := hall st[i] (List.getElem_mem h)
  rw [stateOf_eq h] at this
  simp at this

theorem firstFree_some {st : St} {i : Nat} (h : firstFree st = some i) : i < st.length ∧ stateOf st i = 0 ∧ ∀ j, j < i → stateOf st j ≠ 0 := by
  unfold firstFree at h
  rw [List.findIdx?_eq_some_iff_getElem] at h
  obtain ⟨hi, h0, hlt⟩ := h
  refine ⟨hi, by rw [stateOf_eq hi]; simpa using h0, fun j hj => ?_⟩
  rw [stateOf_eq (by omega)]
  simpa using hlt j hj
theorem firstFree_of {st : St} {i : Nat} (hi : i < st.length) (h0 : stateOf st i = 0) (hlt : ∀ j, j < i → stateOf st j ≠ 0) : firstFree st = some i := by
  unfold firstFree
  rw [List.findIdx?_eq_some_iff_getElem]
  refine ⟨hi, by rw [stateOf_eq hi] at h0; simpa using h0, fun j hj => ?_⟩
  have := hlt j hj
  rw [stateOf_eq (by omega)] at this
  simpa using this
theorem firstFree_none {st : St} (h : ∀ j, j < st.length → stateOf st j ≠ 0) : firstFree st = none := by
  unfold firstFree
  rw [List.findIdx?_eq_none_iff]
  intro p hp
  obtain ⟨j, hj, rfl⟩ := List.getElem_of_mem hp
  have := h j hj
  rw [stateOf_eq hj] at this
  simpa using this
end Md
end Go.Proofs.Ythfmngpocfofnaa
