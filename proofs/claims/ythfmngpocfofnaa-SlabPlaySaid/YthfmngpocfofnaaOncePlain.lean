/- What SlabOnce keeps from act to act, in plain Lean: handles that were taken, which are over, which slots are gone. -/
import Derived.Test.YthfmngpocfofnaaMk
namespace Go.Proofs.Ythfmngpocfofnaa
namespace Md

/-- H: the handles that were taken; O: which are over; G: which slots are gone; i: how many acts were done at most. -/
structure Inv (n : Nat) (st : St) (H : List (Nat × Nat)) (O : List Bool) (G : Nat → Bool) (i : Nat) : Prop where
  ok : Ok st
  len : st.length = n
  same : H.length = O.length
  slots : ∀ j, j < H.length → (H.getD j (0, 0)).1 < n
  live : ∀ j, j < H.length → liveB st (H.getD j (0, 0)).1 (H.getD j (0, 0)).2 = !(O.getD j true)
  old : ∀ j, j < H.length → (H.getD j (0, 0)).2 < genOf st (H.getD j (0, 0)).1 ∨ ((H.getD j (0, 0)).2 = genOf st (H.getD j (0, 0)).1 ∧ stateOf st (H.getD j (0, 0)).1 = 1)
  count : O.countP (fun o => !o) = cnt st 1
  gone : ∀ s, s < n → G s = (stateOf st s == 2)
  gens : ∀ s, genOf st s ≤ i + 1
  many : H.length ≤ i
  nodup : ∀ j k, j < k → k < H.length → H.getD j (0, 0) ≠ H.getD k (0, 0)

theorem liveB_nat {st : St} {s g : Nat} (h : s < st.length) : liveB st s g = (stateOf st s == 1 && genOf st s == g) := by
  unfold liveB
  rw [Bool.eq_iff_iff]
  simp only [Int.toNat_natCast, Bool.and_eq_true, decide_eq_true_eq, beq_iff_eq]
  omega

theorem Inv.start (n : Nat) (h : n ≤ 256) : Inv n (fresh n) [] [] (fun _ => false) 0 := by
  refine ⟨Ok.fresh h, by simp [fresh], rfl, fun j hj => by simp at hj, fun j hj => by simp at hj, fun j hj => by simp at hj, ?_, fun s hs => ?_, fun s => ?_, Nat.le_refl _, fun j k _ hk => by simp at hk⟩
  · simp [cnt, fresh, List.countP_replicate]
  · simp [stateOf, fresh, hs]
  · by_cases hs : s < n <;> simp [genOf, fresh, hs]

theorem Inv.mono {n i : Nat} {st : St} {H : List (Nat × Nat)} {O : List Bool} {G : Nat → Bool} (h : Inv n st H O G i) : Inv n st H O G (i + 1) :=
  { h with gens := fun s => by have := h.gens s; omega, many := by have := h.many; omega }

theorem getD_snoc {α : Type} (l : List α) (x d : α) (j : Nat) (h : j < l.length + 1) : (l ++ [x]).getD j d = if j = l.length then x else l.getD j d := by
  by_cases e : j = l.length
  · subst e; simp
  · have hj : j < l.length := by omega
    rw [if_neg e]; simp only [List.getD]; rw [List.getElem?_append_left hj]

/-- A slot that is free is taken: its handle is none of those that were. -/
theorem Inv.take {n i k : Nat} {st : St} {H : List (Nat × Nat)} {O : List Bool} {G : Nat → Bool} (h : Inv n st H O G i) (hk : k < n) (h0 : stateOf st k = 0) :
    Inv n (turn st k 1) (H ++ [(k, genOf st k)]) (O ++ [false]) G (i + 1) ∧ (∀ j, j < H.length → H.getD j (0, 0) ≠ (k, genOf st k)) ∧ G k = false := by
  have hl := h.len
  have hkl : k < st.length := by omega
  have hnew : ∀ j, j < H.length → H.getD j (0, 0) ≠ (k, genOf st k) := by
    intro j hj e
    have := h.old j hj
    rw [e] at this
    simp only at this
    omega
  have es : ∀ s, stateOf (turn st k 1) s = if s = k then 1 else stateOf st s := fun s => by unfold turn; rw [stateOf_set _ _ _ _ hkl]
  have eg : ∀ s, genOf (turn st k 1) s = genOf st s := fun s => by
    unfold turn; rw [genOf_set _ _ _ _ hkl]; by_cases e : s = k <;> simp [e]
  refine ⟨⟨h.ok.turn hkl (by omega), by rw [turn_length]; exact hl, by simp [h.same], ?_, ?_, ?_, ?_, ?_, ?_, ?_, ?_⟩, hnew, by rw [h.gone k hk, h0]; rfl⟩
  · intro j hj
    rw [getD_snoc _ _ _ _ (by simpa using hj)]
    split
    · exact hk
    · exact h.slots j (by simp at hj; omega)
  · intro j hj
    rw [getD_snoc _ _ _ _ (by simpa using hj), getD_snoc _ _ _ _ (by rw [← h.same]; simpa using hj), ← h.same]
    by_cases e : j = H.length
    · rw [if_pos e, if_pos e, liveB_nat (by rw [turn_length]; exact hkl), es, eg, if_pos rfl]; simp
    · rw [if_neg e, if_neg e]
      have hj' : j < H.length := by simp at hj; omega
      rw [← h.live j hj']
      have hs := h.slots j hj'
      rw [liveB_nat (by rw [turn_length]; omega), liveB_nat (by omega), es, eg]
      by_cases e2 : (H.getD j (0, 0)).1 = k
      · have hne := hnew j hj'
        have hg : (genOf st (H.getD j (0, 0)).1 == (H.getD j (0, 0)).2) = false := by
          rw [beq_eq_false_iff_ne]
          intro e3
          exact hne (Prod.ext e2 (by rw [← e3, e2]))
        rw [hg]; simp
      · rw [if_neg e2]
  · intro j hj
    rw [getD_snoc _ _ _ _ (by simpa using hj), eg, es]
    by_cases e : j = H.length
    · rw [if_pos e]; right; simp
    · rw [if_neg e]
      have hj' : j < H.length := by simp at hj; omega
      rcases h.old j hj' with h1 | ⟨h1, h2⟩
      · exact .inl h1
      · right
        refine ⟨h1, ?_⟩
        by_cases e2 : (H.getD j (0, 0)).1 = k
        · rw [if_pos e2]
        · rw [if_neg e2]; exact h2
  · rw [List.countP_append, h.count]
    unfold turn
    rw [cnt_set _ _ _ _ hkl, h0]
    simp
  · intro s hs
    rw [h.gone s hs, es]
    by_cases e : s = k
    · subst e; rw [h0, if_pos rfl]; rfl
    · rw [if_neg e]
  · intro s; rw [eg]; have := h.gens s; omega
  · simp; exact h.many
  · intro j l hjl hl2
    have hl3 : l < H.length + 1 := by simpa using hl2
    rw [getD_snoc _ _ _ _ (by omega), getD_snoc _ _ _ _ hl3, if_neg (by omega)]
    by_cases e : l = H.length
    · rw [if_pos e]; exact hnew j (by omega)
    · rw [if_neg e]; exact h.nodup j l hjl (by omega)

theorem no_free {n i : Nat} {st : St} {H : List (Nat × Nat)} {O : List Bool} {G : Nat → Bool} (_h : Inv n st H O G i) (hn : firstFree st = none) : cnt st 0 = 0 := by
  unfold cnt
  rw [List.countP_eq_zero]
  unfold firstFree at hn
  rw [List.findIdx?_eq_none_iff] at hn
  intro p hp
  simpa using hn p hp

theorem Inv.all {n i : Nat} {st : St} {H : List (Nat × Nat)} {O : List Bool} {G : Nat → Bool} (h : Inv n st H O G i) : cnt st 0 + cnt st 1 + cnt st 2 = n := by
  rw [← h.len]
  have hs : ∀ p ∈ st, p.1 ≤ 2 := by
    intro p hp
    obtain ⟨j, hj, rfl⟩ := List.getElem_of_mem hp
    have := (h.ok.2 j).1
    rwa [stateOf_eq hj] at this
  clear h
  induction st with
  | nil => rfl
  | cons p l ih =>
    have h1 := hs p (by simp)
    have h2 := ih (fun q hq => hs q (by simp [hq]))
    simp only [cnt, List.countP_cons, List.length_cons] at h2 ⊢
    have : p.1 = 0 ∨ p.1 = 1 ∨ p.1 = 2 := by omega
    rcases this with e | e | e <;> simp only [e] <;> simp <;> omega

/-- A slot that was let go is made free: or there is none such. -/
theorem Inv.free {n i s : Nat} {st : St} {H : List (Nat × Nat)} {O : List Bool} {G : Nat → Bool} (h : Inv n st H O G i) (hs : s < n) :
    Inv n (freeSt st s) H O (fun j => if j = s then false else G j) (i + 1) ∧ freeE st s = (if G s then 0 else 6) := by
  have hl := h.len
  have hsl : s < st.length := by omega
  have hg := h.gone s hs
  have hI : stateI st (s : Nat) = (stateOf st s : Nat) := by unfold stateI; rw [if_pos (by omega)]; simp
  unfold freeSt freeE
  rw [hI, hg]
  by_cases e : stateOf st s = 2
  · have e' : ((stateOf st s : Nat) : Int) = 2 := by omega
    rw [if_pos e', if_pos e', Int.toNat_natCast, if_pos (by rw [e]; rfl)]
    refine ⟨?_, rfl⟩
    have es : ∀ t, stateOf (turn st s 0) t = if t = s then 0 else stateOf st t := fun t => by unfold turn; rw [stateOf_set _ _ _ _ hsl]
    have eg : ∀ t, genOf (turn st s 0) t = genOf st t := fun t => by
      unfold turn; rw [genOf_set _ _ _ _ hsl]; by_cases e : t = s <;> simp [e]
    refine ⟨h.ok.turn hsl (by omega), by rw [turn_length]; exact hl, h.same, h.slots, ?_, ?_, ?_, ?_, ?_, ?_, h.nodup⟩
    · intro j hj
      have hj2 := h.slots j hj
      rw [← h.live j hj, liveB_nat (by rw [turn_length]; omega), liveB_nat (by omega), es, eg]
      by_cases e2 : (H.getD j (0, 0)).1 = s
      · rw [if_pos e2, e2, e]; rfl
      · rw [if_neg e2]
    · intro j hj
      rw [eg, es]
      rcases h.old j hj with h1 | ⟨h1, h2⟩
      · exact .inl h1
      · by_cases e2 : (H.getD j (0, 0)).1 = s
        · rw [e2, e] at h2; cases h2
        · right; rw [if_neg e2]; exact ⟨h1, h2⟩
    · rw [h.count]; unfold turn; rw [cnt_set _ _ _ _ hsl, e]; simp
    · intro t ht
      rw [es]
      by_cases e2 : t = s
      · rw [if_pos e2, if_pos e2]; rfl
      · rw [if_neg e2, if_neg e2]; exact h.gone t ht
    · intro t; rw [eg]; have := h.gens t; omega
    · have := h.many; omega
  · have e' : ¬ ((stateOf st s : Nat) : Int) = 2 := by omega
    have hb : (stateOf st s == 2) = false := by rw [beq_eq_false_iff_ne]; exact e
    rw [if_neg e', if_neg e', if_neg (by rw [hb]; simp)]
    refine ⟨{ h.mono with gone := fun t ht => ?_ }, rfl⟩
    by_cases e2 : t = s
    · rw [if_pos e2, e2, hb]
    · rw [if_neg e2]; exact h.gone t ht

/-- A handle is given back, or retired. -/
theorem Inv.leave {n i k z : Nat} {st : St} {H : List (Nat × Nat)} {O : List Bool} {G : Nat → Bool} (h : Inv n st H O G i) (hi : i < 1000) (hk : k < H.length) (hz : z = 0 ∨ z = 2) :
    Inv n (leaveSt st (H.getD k (0, 0)).1 (H.getD k (0, 0)).2 z) H (O.set k true)
      (fun j => if j = (H.getD k (0, 0)).1 then (G j || (z == 2 && !(O.getD k true))) else G j) (i + 1) ∧
    leaveE st (H.getD k (0, 0)).1 (H.getD k (0, 0)).2 = (if O.getD k true then 9 else 0) := by
  have hl := h.len
  have hlive := h.live k hk
  have hs := h.slots k hk
  generalize hS : (H.getD k (0, 0)).1 = s at *
  generalize hG : (H.getD k (0, 0)).2 = g at *
  have hsl : s < st.length := by omega
  unfold leaveSt leaveE
  rw [hlive]
  have hkO : k < O.length := by rw [← h.same]; exact hk
  cases hO : O.getD k true with
  | true =>
    rw [if_neg (by simp), if_neg (by simp), if_pos rfl]
    refine ⟨?_, rfl⟩
    have e1 : O.set k true = O := by
      apply List.ext_getElem (by simp)
      intro j h1 h2
      rw [List.getElem_set]
      split
      · rename_i e; subst e; simpa [List.getD, hkO] using hO.symm
      · rfl
    rw [e1]
    exact { h.mono with gone := fun t ht => by rw [← h.gone t ht]; by_cases e : t = s <;> simp [e] }
  | false =>
    rw [if_pos (by simp), if_pos (by simp), if_neg (by simp), Int.toNat_natCast]
    refine ⟨?_, rfl⟩
    rw [hO] at hlive
    rw [liveB_nat hsl] at hlive
    simp only [Bool.not_false, Bool.and_eq_true, beq_iff_eq] at hlive
    obtain ⟨h1, h2⟩ := hlive
    have hgen : (genOf st s + 1) % 4294967296 = genOf st s + 1 := by have := h.gens s; omega
    have es : ∀ t, stateOf (Md.leave st s z) t = if t = s then z else stateOf st t := fun t => by unfold Md.leave; rw [stateOf_set _ _ _ _ hsl]
    have eg : ∀ t, genOf (Md.leave st s z) t = if t = s then genOf st s + 1 else genOf st t := fun t => by unfold Md.leave; rw [genOf_set _ _ _ _ hsl, hgen]
    refine ⟨h.ok.leave hsl (by omega), by rw [leave_length]; exact hl, by simpa using h.same, h.slots, ?_, ?_, ?_, ?_, ?_, ?_, h.nodup⟩
    · intro j hj
      have hj2 := h.slots j hj
      rw [liveB_nat (by rw [leave_length]; omega), es, eg]
      have hjO : j < O.length := by rw [← h.same]; exact hj
      have hgd : (O.set k true).getD j true = if j = k then true else O.getD j true := by
        by_cases e : j = k
        · subst e; simp [hkO]
        · simp [List.getElem?_set, Ne.symm e, e]
      rw [hgd]
      have hz1 : (z == 1) = false := by rcases hz with rfl | rfl <;> rfl
      by_cases e : j = k
      · subst e
        rw [if_pos rfl, hS, if_pos rfl, hz1]; rfl
      · rw [if_neg e, ← h.live j hj, liveB_nat (by omega)]
        by_cases e2 : (H.getD j (0, 0)).1 = s
        · rw [if_pos e2, if_pos e2, e2, hz1]
          have hne : (H.getD j (0, 0)).2 ≠ g := by
            intro e3
            have hjk : H.getD j (0, 0) = H.getD k (0, 0) := Prod.ext (by rw [e2, hS]) (by rw [e3, hG])
            rcases Nat.lt_or_gt_of_ne e with h3 | h3
            · exact h.nodup j k h3 hk hjk
            · exact h.nodup k j h3 hj hjk.symm
          have : (genOf st s == (H.getD j (0, 0)).2) = false := by rw [beq_eq_false_iff_ne, h2]; exact Ne.symm hne
          rw [this]; simp
        · rw [if_neg e2, if_neg e2]
    · intro j hj
      rw [eg, es]
      by_cases e2 : (H.getD j (0, 0)).1 = s
      · rw [if_pos e2]
        left
        rcases h.old j hj with h3 | ⟨h3, _⟩ <;> rw [e2] at h3 <;> omega
      · rw [if_neg e2, if_neg e2]; exact h.old j hj
    · have hc := h.count
      unfold Md.leave
      rw [cnt_set _ _ _ _ hsl, h1, if_pos rfl, if_neg (by simp; omega), ← hc, List.countP_set hkO]
      have : O[k] = false := by simpa [List.getD, hkO] using hO
      rw [this]; simp
    · intro t ht
      rw [es, h.gone t ht]
      by_cases e : t = s
      · rw [if_pos e, if_pos e, e, h1]
        rcases hz with rfl | rfl <;> rfl
      · rw [if_neg e, if_neg e]
    · intro t
      rw [eg]
      have a1 := h.gens t
      have a2 := h.gens s
      split <;> omega
    · have := h.many; omega
end Md
end Go.Proofs.Ythfmngpocfofnaa
