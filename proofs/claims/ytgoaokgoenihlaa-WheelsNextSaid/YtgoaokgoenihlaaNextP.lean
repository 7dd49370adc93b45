/- Handles that are put once, and told as their ticks come: what each Turn tells. -/
import Derived.Test.YtgoaokgoenihlaaWalkK
namespace Go.Proofs.Ytgoaokgoenihlaa

/-- The first k handles, and when they are due. -/
def dk (z : Nat → Nat) (k : Nat) : List Tm := (List.range k).map fun i => ⟨z i, ⟨i, 0⟩⟩
theorem dk_succ (z : Nat → Nat) (k : Nat) : dk z (k + 1) = dk z k ++ [⟨z k, ⟨k, 0⟩⟩] := by
  unfold dk; rw [List.range_succ, List.map_append]; rfl
theorem dk_len (z : Nat → Nat) (k : Nat) : (dk z k).length = k := by simp [dk]
theorem dk_mem {z : Nat → Nat} {k : Nat} {t : Tm} (h : t ∈ dk z k) : ∃ j, j < k ∧ t = ⟨z j, ⟨j, 0⟩⟩ := by
  obtain ⟨j, hj, rfl⟩ := List.mem_map.1 h
  exact ⟨j, by simpa using hj, rfl⟩
theorem dk_find (z : Nat → Nat) (n k : Nat) : (⟨n, 0, dk z k⟩ : Wh).find ⟨k, 0⟩ = none := by
  unfold Wh.find
  rw [List.find?_eq_none]
  intro t ht
  obtain ⟨j, hj, rfl⟩ := dk_mem ht
  simp only [beq_iff_eq, Hn.mk.injEq]
  omega
theorem dk_put (z : Nat → Nat) (n k : Nat) (hz : z k ≤ 4294967295) : (⟨n, 0, dk z k⟩ : Wh).putE ⟨k, 0⟩ (z k : Nat) = 0 ∧ (⟨n, 0, dk z k⟩ : Wh).putS ⟨k, 0⟩ (z k : Nat) = ⟨n, 0, dk z (k + 1)⟩ := by
  have hd : ¬ (((z k : Nat) : Int) < 0 ∨ (1099511627776 : Int) < ((z k : Nat) : Int)) := by omega
  unfold Wh.putE Wh.putS
  rw [if_neg hd, if_neg hd, dk_find]
  refine ⟨rfl, ?_⟩
  simp only [Option.isSome_none, Bool.false_eq_true, if_false, Wh.put, Int.toNat_natCast, dk_succ]
/-- What holds while they are told. -/
structure NI (z : Nat → Nat) (len : Nat) (S : Wh) : Prop where
  sub : S.E.Sublist (dk z len)
  lo : ∀ t ∈ S.E, S.last < t.d ∨ S.last = 0
theorem nx_min {E : List Tm} (h : E ≠ []) : (∃ t ∈ E, t.d = nx E) ∧ ∀ t ∈ E, nx E ≤ t.d := by
  have h1 : minD E = some (nx E) := by
    cases E with
    | nil => exact (h rfl).elim
    | cons a l => rfl
  exact minD_some h1
section
variable {z : Nat → Nat} {len : Nat} {S : Wh}
theorem NI.le (h : NI z len S) (hz : ∀ j, j < len → z j ≤ 4294967295) (hE : S.E ≠ []) : nx S.E ≤ 4294967295 := by
  obtain ⟨⟨t, ht, hd⟩, _⟩ := nx_min hE
  obtain ⟨j, hj, rfl⟩ := dk_mem (h.sub.subset ht)
  rw [← hd]; exact hz j hj
theorem NI.last (h : NI z len S) (hE : S.E ≠ []) : S.last ≤ nx S.E ∧ (0 < nx S.E → S.last ≤ nx S.E - 1) := by
  obtain ⟨⟨t, ht, hd⟩, _⟩ := nx_min hE
  rcases h.lo t ht with h1 | h1 <;> omega
/-- A Turn to a tick below the first one's tells none. -/
theorem NI.below (h : NI z len S) (hz : ∀ j, j < len → z j ≤ 4294967295) (hE : S.E ≠ []) (hp : 0 < nx S.E) :
    S.turnE ((nx S.E : Nat) - 1 : Int) = 0 ∧ S.turnL ((nx S.E : Nat) - 1 : Int) = [] ∧ S.turnS ((nx S.E : Nat) - 1 : Int) = ⟨S.n, nx S.E - 1, S.E⟩ ∧ NI z len ⟨S.n, nx S.E - 1, S.E⟩ := by
  have h1 := h.le hz hE
  have h2 := (h.last hE).2 hp
  have h3 := (nx_min hE).2
  have e : (((nx S.E : Nat) - 1 : Int)).toNat = nx S.E - 1 := by omega
  unfold Wh.turnE Wh.turnL Wh.turnS
  rw [if_neg (by omega), if_neg (by omega), if_neg (by omega), e]
  refine ⟨rfl, ?_, ?_, h.sub, fun t ht => .inl ?_⟩
  · have : S.due (nx S.E - 1) = [] := List.filter_eq_nil_iff.2 fun t ht => by
      have := h3 t ht; simp; omega
    unfold Wh.told
    rw [this]
    simp [srt]
  · unfold Wh.turn
    have : (S.E.filter fun t => !decide (t.d ≤ nx S.E - 1)) = S.E := List.filter_eq_self.2 fun t ht => by
      have := h3 t ht; simp; omega
    rw [this]
  · have := h3 t ht
    show nx S.E - 1 < t.d
    omega
/-- A Turn to the first one's tick tells all that are due at it. -/
theorem NI.at_ (h : NI z len S) (hS : S.Ok) (hz : ∀ j, j < len → z j ≤ 4294967295) (hE : S.E ≠ []) :
    ∃ L, S.turnE (nx S.E : Nat) = 0 ∧ S.turnL (nx S.E : Nat) = L ∧ S.turnS (nx S.E : Nat) = S.turn (nx S.E) ∧ NI z len (S.turn (nx S.E)) ∧ 1 ≤ L.length ∧ L.length + (S.turn (nx S.E)).E.length = S.E.length ∧
      ∃ J : Nat → Nat, (∀ i, i < L.length → J i < len ∧ hs L i = (J i : Nat) ∧ hg L i = 0 ∧ z (J i) = nx S.E) ∧ ∀ i, i + 1 < L.length → J i < J (i + 1) := by
  have h1 := h.le hz hE
  have h2 := (h.last hE).1
  have h3 := (nx_min hE).2
  obtain ⟨t0, ht0, hd0⟩ := (nx_min hE).1
  refine ⟨(S.told (nx S.E)).map Tm.h, ?_, ?_, ?_, ⟨List.filter_sublist.trans h.sub, fun t ht => .inl ?_⟩, ?_, ?_, fun i => (hs ((S.told (nx S.E)).map Tm.h) i).toNat, ?_, ?_⟩
  · unfold Wh.turnE; rw [if_neg (by omega)]
  · unfold Wh.turnL; rw [if_neg (by omega)]; simp
  · unfold Wh.turnS; rw [if_neg (by omega)]; simp
  · have := (List.mem_filter.1 ht).2
    simp at this
    exact this
  · rw [List.length_map]
    exact List.length_pos_of_mem ((srt_perm _).mem_iff.2 (List.mem_filter.2 ⟨ht0, by simp [hd0]⟩))
  · rw [List.length_map]
    unfold Wh.told Wh.due
    rw [srt_len]
    show _ + (S.E.filter fun t => !decide (t.d ≤ nx S.E)).length = _
    have := filter_len (fun t : Tm => decide (t.d ≤ nx S.E)) S.E
    omega
  all_goals
    have key : ∀ i, i < (S.told (nx S.E)).length → ∃ j, j < len ∧ (S.told (nx S.E))[i]? = some ⟨z j, ⟨j, 0⟩⟩ ∧ z j = nx S.E ∧ hs ((S.told (nx S.E)).map Tm.h) i = (j : Nat) ∧ hg ((S.told (nx S.E)).map Tm.h) i = 0 := fun i hi => by
      have hm := (srt_perm _).mem_iff.1 (List.getElem_mem hi)
      obtain ⟨m1, m2⟩ := List.mem_filter.1 hm
      obtain ⟨j, hj, e⟩ := dk_mem (h.sub.subset m1)
      refine ⟨j, hj, by rw [List.getElem?_eq_getElem hi, e], ?_, ?_, ?_⟩
      · have := h3 _ m1
        rw [e] at this m2
        simp at this m2
        omega
      · simp [hs, hi, e]
      · simp [hg, hi, e]
  · intro i hi
    rw [List.length_map] at hi
    obtain ⟨j, hj, _, h5, h6, h7⟩ := key i hi
    have h8 : (hs ((S.told (nx S.E)).map Tm.h) i).toNat = j := by rw [h6]; simp
    exact ⟨by show (hs _ i).toNat < len; rw [h8]; exact hj, by show hs _ i = (((hs ((S.told (nx S.E)).map Tm.h) i).toNat : Nat) : Int); rw [h8]; exact h6, h7, by show z ((hs _ i).toNat) = _; rw [h8]; exact h5⟩
  · intro i hi
    rw [List.length_map] at hi
    obtain ⟨j, hj, h4, h5, h6, _⟩ := key i (by omega)
    obtain ⟨j', hj', h4', h5', h6', _⟩ := key (i + 1) hi
    simp only [h6, h6', Int.toNat_natCast]
    have hp := List.pairwise_iff_getElem.1 (srt_sorted (S.due (nx S.E))) i (i + 1) (by exact (by omega : i < (S.told (nx S.E)).length)) hi (by omega)
    have hq := List.pairwise_iff_getElem.1 (Wh.told_nodup hS (nx S.E)) i (i + 1) (by omega) hi (by omega)
    have g1 : (S.told (nx S.E))[i]'(by omega) = ⟨z j, ⟨j, 0⟩⟩ := by rw [List.getElem?_eq_getElem (by omega)] at h4; exact Option.some.inj h4
    have g2 : (S.told (nx S.E))[i + 1]'hi = ⟨z j', ⟨j', 0⟩⟩ := by rw [List.getElem?_eq_getElem hi] at h4'; exact Option.some.inj h4'
    have hp' : tlt ((S.told (nx S.E))[i + 1]'hi) ((S.told (nx S.E))[i]'(by omega)) = false := hp
    rw [g1, g2] at hp' hq
    simp only [tlt, decide_eq_false_iff_not] at hp'
    have hjj : j ≠ j' := fun e => by subst e; exact hq rfl
    omega
end
end Go.Proofs.Ytgoaokgoenihlaa
