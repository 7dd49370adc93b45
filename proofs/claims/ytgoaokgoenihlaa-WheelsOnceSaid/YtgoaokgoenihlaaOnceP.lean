/- Eighteen handles, and when they are due, in an array: what each act makes of it, in plain words. -/
import Derived.Test.YtgoaokgoenihlaaTwo
namespace Go.Proofs.Ytgoaokgoenihlaa

/-- The j-th handle. -/
def hk (j : Nat) : Hn := ⟨(j / 3 : Nat), j % 3⟩
theorem hk_inj {i j : Nat} (h : hk i = hk j) : i = j := by
  simp only [hk, Hn.mk.injEq] at h; omega
def hidx (n : Nat) : Nat := n % 6 * 3 + n / 6 % 3
theorem hidx_lt (n : Nat) : hidx n < 18 := by unfold hidx; omega
theorem hk_hidx (n : Nat) : hk (hidx n) = hN n := by
  simp only [hk, hidx, hN, Hn.mk.injEq]; omega
/-- When the j-th handle is due; -1: it is not there. -/
def dv (E : List Tm) (j : Nat) : Int := match E.find? (fun t => t.h == hk j) with
  | some t => (t.d : Nat)
  | none => -1
/-- All are among the eighteen. -/
def Few (E : List Tm) : Prop := ∀ t ∈ E, ∃ j, j < 18 ∧ t.h = hk j
theorem dv_some {E : List Tm} {j : Nat} (h : cutR E (hk j) = true) : ∃ t ∈ E, t.h = hk j ∧ dv E j = (t.d : Nat) := by
  unfold cutR at h
  obtain ⟨t, ht⟩ := Option.isSome_iff_exists.1 h
  exact ⟨t, List.mem_of_find?_eq_some ht, by simpa using List.find?_some ht, by unfold dv; rw [ht]⟩
theorem dv_none {E : List Tm} {j : Nat} (h : cutR E (hk j) = false) : dv E j = -1 ∧ E.find? (fun t => t.h == hk j) = none := by
  unfold cutR at h
  have : E.find? (fun t => t.h == hk j) = none := by
    cases e : E.find? (fun t => t.h == hk j) with
    | none => rfl
    | some t => rw [e] at h; cases h
  exact ⟨by unfold dv; rw [this], this⟩
theorem dv_nn (E : List Tm) (j : Nat) : decide (0 ≤ dv E j) = cutR E (hk j) := by
  cases h : cutR E (hk j)
  · rw [(dv_none h).1]; rfl
  · obtain ⟨t, _, _, e⟩ := dv_some h
    rw [e]; simp
theorem dv_lo (E : List Tm) (j : Nat) : -1 ≤ dv E j := by
  cases h : cutR E (hk j)
  · rw [(dv_none h).1]; omega
  · obtain ⟨t, _, _, e⟩ := dv_some h
    rw [e]; omega
theorem nodup_same : ∀ {L : List Tm}, (L.map Tm.h).Nodup → ∀ {t u : Tm}, t ∈ L → u ∈ L → t.h = u.h → t = u
  | [], _, _, _, h, _, _ => by simp at h
  | x :: l, hn, t, u, ht, hu, e => by
    rw [List.map_cons, List.nodup_cons] at hn
    rcases List.mem_cons.1 ht with h1 | h1
    · rcases List.mem_cons.1 hu with h2 | h2
      · rw [h1, h2]
      · subst h1; exact (hn.1 (by rw [e]; exact List.mem_map.2 ⟨u, h2, rfl⟩)).elim
    · rcases List.mem_cons.1 hu with h2 | h2
      · subst h2; exact (hn.1 (by rw [← e]; exact List.mem_map.2 ⟨t, h1, rfl⟩)).elim
      · exact nodup_same hn.2 h1 h2 e
theorem dv_mem {E : List Tm} (hn : (E.map Tm.h).Nodup) {t : Tm} {j : Nat} (ht : t ∈ E) (hj : t.h = hk j) : dv E j = (t.d : Nat) := by
  have h : cutR E (hk j) = true := by
    unfold cutR
    rw [List.find?_isSome]
    exact ⟨t, ht, by simp [hj]⟩
  obtain ⟨u, hu, hj', e⟩ := dv_some h
  rw [e, nodup_same hn hu ht (hj'.trans hj.symm)]
theorem dv_of_not {E : List Tm} {j : Nat} (h : ∀ t ∈ E, ¬ t.h = hk j) : dv E j = -1 := by
  have : E.find? (fun t => t.h == hk j) = none := List.find?_eq_none.2 fun t ht => by simp [h t ht]
  unfold dv; rw [this]
theorem dv_cut {E : List Tm} (hn : (E.map Tm.h).Nodup) (i j : Nat) : dv (cutL E (hk j)) i = if i = j then -1 else dv E i := by
  by_cases h : i = j
  · subst h
    rw [if_pos rfl]
    refine dv_of_not fun t ht e => ?_
    have := (List.mem_filter.1 ht).2
    simp [e] at this
  · rw [if_neg h]
    have hn' : ((cutL E (hk j)).map Tm.h).Nodup := nodup_filter hn
    cases hc : cutR E (hk i)
    · rw [(dv_none hc).1]
      refine dv_of_not fun t ht e => ?_
      have := List.find?_eq_none.1 (dv_none hc).2 t (List.mem_filter.1 ht).1
      simp [e] at this
    · obtain ⟨t, ht, hj, e⟩ := dv_some hc
      rw [e]
      exact dv_mem hn' (List.mem_filter.2 ⟨ht, by simp [hj]; intro e; exact h (hk_inj e)⟩) hj
theorem dv_put {E : List Tm} (hn : (E.map Tm.h).Nodup) (i j d : Nat) : dv (putL E (hk j) d) i = if i = j ∧ cutR E (hk j) = false then ((d : Nat) : Int) else dv E i := by
  unfold putL
  show dv (if cutR E (hk j) = true then E else E ++ [⟨d, hk j⟩]) i = _
  cases hc : cutR E (hk j)
  · rw [if_neg (by simp)]
    have hfn := (dv_none hc).2
    by_cases h : i = j
    · subst h
      rw [if_pos ⟨rfl, rfl⟩]
      unfold dv
      rw [List.find?_append, hfn]
      simp
    · rw [if_neg (fun e => h e.1)]
      unfold dv
      rw [List.find?_append]
      cases E.find? (fun t => t.h == hk i) with
      | some t => rfl
      | none =>
        have hne : ¬ hk j = hk i := fun e => h (hk_inj e).symm
        simp [hne]
  · rw [if_pos rfl, if_neg (fun e => by simp at e)]
theorem few_cut {E : List Tm} (h : Few E) (a : Hn) : Few (cutL E a) := fun t ht => h t (List.mem_filter.1 ht).1
theorem few_turn {E : List Tm} (h : Few E) (n : Nat) : Few (turnT E n) := fun t ht => h t (List.mem_filter.1 ht).1
theorem few_put {E : List Tm} (h : Few E) {j : Nat} (hj : j < 18) (d : Nat) : Few (putL E (hk j) d) := by
  unfold putL
  split
  · exact h
  · intro t ht
    rcases List.mem_append.1 ht with ht | ht
    · exact h t ht
    · simp at ht; subst ht; exact ⟨j, hj, rfl⟩
/-- What a Turn tells, by numbers. -/
theorem once_told {E : List Tm} (hn : (E.map Tm.h).Nodup) (hf : Few E) (n : Nat) : ∃ C D : Nat → Nat,
    (∀ m, m < (turnR E n).length → C m < 18 ∧ hs (turnR E n) m = (C m / 3 : Nat) ∧ hg (turnR E n) m = C m % 3 ∧ dv E (C m) = (D m : Nat) ∧ D m ≤ n) ∧
    (∀ m, m + 1 < (turnR E n).length → D m < D (m + 1) ∨ D m = D (m + 1) ∧ C m < C (m + 1)) ∧
    (∀ i, i < 18 → dv (turnT E n) i = if ∃ m, m < (turnR E n).length ∧ C m = i then -1 else dv E i) ∧
    ∀ i, i < 18 → 0 ≤ dv (turnT E n) i → n < dv (turnT E n) i := by
  obtain ⟨T, hT⟩ : ∃ T, T = srt (E.filter fun t => decide (t.d ≤ n)) := ⟨_, rfl⟩
  have hL : turnR E n = T.map Tm.h := by unfold turnR; rw [hT]
  have hTm : ∀ t, t ∈ T ↔ t ∈ E ∧ t.d ≤ n := fun t => by rw [hT, (srt_perm _).mem_iff, List.mem_filter]; simp
  have hTn : (T.map Tm.h).Nodup := by
    rw [hT]
    exact ((srt_perm _).map Tm.h).nodup_iff.2 (nodup_filter hn)
  have hTs : T.Pairwise fun x y => tlt y x = false := by rw [hT]; exact srt_sorted _
  clear hT
  have hlen : (turnR E n).length = T.length := by rw [hL, List.length_map]
  have key : ∀ m (h : m < T.length), ∃ j, j < 18 ∧ T[m].h = hk j := fun m h => hf _ ((hTm _).1 (List.getElem_mem h)).1
  refine ⟨fun m => if h : m < T.length then Classical.choose (key m h) else 0, fun m => if h : m < T.length then T[m].d else 0, ?_, ?_, ?_, ?_⟩
  · intro m hm
    rw [hlen] at hm
    simp only [dif_pos hm]
    obtain ⟨h1, h2⟩ := Classical.choose_spec (key m hm)
    have h3 := (hTm _).1 (List.getElem_mem hm)
    refine ⟨h1, ?_, ?_, dv_mem hn h3.1 h2, h3.2⟩
    · rw [hL]; simp only [hs, List.getD_eq_getElem?_getD, List.getElem?_map, List.getElem?_eq_getElem hm, Option.map_some, Option.getD_some]; exact congrArg Hn.s h2
    · rw [hL]; simp only [hg, List.getD_eq_getElem?_getD, List.getElem?_map, List.getElem?_eq_getElem hm, Option.map_some, Option.getD_some]; exact congrArg Hn.g h2
  · intro m hm
    rw [hlen] at hm
    have hm0 : m < T.length := by omega
    simp only [dif_pos hm, dif_pos hm0]
    have h2 := (Classical.choose_spec (key m hm0)).2
    have h3 := (Classical.choose_spec (key (m + 1) hm)).2
    have hp := List.pairwise_iff_getElem.1 hTs m (m + 1) hm0 hm (by omega)
    have hne : ¬ T[m].h = T[m + 1].h := by
      have := List.pairwise_iff_getElem.1 hTn m (m + 1) (by simpa using hm0) (by simpa using hm) (by omega)
      simpa using this
    generalize Classical.choose (key m hm0) = c at h2 ⊢
    generalize Classical.choose (key (m + 1) hm) = c' at h3 ⊢
    rw [h2, h3] at hne
    have hcc : c ≠ c' := fun e => hne (by rw [e])
    simp only [tlt, decide_eq_false_iff_not] at hp
    rw [h2, h3] at hp
    simp only [hk] at hp
    omega
  · intro i hi
    by_cases hex : ∃ m, m < (turnR E n).length ∧ (if h : m < T.length then Classical.choose (key m h) else 0) = i
    · rw [if_pos hex]
      obtain ⟨m, hm, e⟩ := hex
      rw [hlen] at hm
      rw [dif_pos hm] at e
      have h2 := (Classical.choose_spec (key m hm)).2
      rw [e] at h2
      refine dv_of_not fun t ht e' => ?_
      obtain ⟨t1, t2⟩ := List.mem_filter.1 ht
      have h3 := (hTm _).1 (List.getElem_mem hm)
      have := nodup_same hn t1 h3.1 (e'.trans h2.symm)
      subst this
      simp at t2
      omega
    · rw [if_neg hex]
      cases hc : cutR E (hk i)
      · rw [(dv_none hc).1]
        refine dv_of_not fun t ht e => ?_
        have := List.find?_eq_none.1 (dv_none hc).2 t (List.mem_filter.1 ht).1
        simp [e] at this
      · obtain ⟨t, ht, hj, e⟩ := dv_some hc
        rw [e]
        refine dv_mem (nodup_filter hn) (List.mem_filter.2 ⟨ht, ?_⟩) hj
        by_cases hd : t.d ≤ n
        · refine (hex ?_).elim
          obtain ⟨m, hm, e'⟩ := List.getElem_of_mem ((hTm t).2 ⟨ht, hd⟩)
          refine ⟨m, by rw [hlen]; exact hm, ?_⟩
          rw [dif_pos hm]
          have h2 := (Classical.choose_spec (key m hm)).2
          exact hk_inj (h2.symm.trans (by rw [e']; exact hj))
        · simp [hd]
  · intro i hi h0
    have hc : cutR (turnT E n) (hk i) = true := by rw [← dv_nn]; simp [h0]
    obtain ⟨t, ht, hj, e⟩ := dv_some hc
    have := (List.mem_filter.1 ht).2
    simp at this
    rw [e]; omega
/-- How many are there. -/
def cntD (E : List Tm) (k : Nat) : Nat := ((List.range k).filter fun j => decide (0 ≤ dv E j)).length
theorem cntD_succ (E : List Tm) (k : Nat) : cntD E (k + 1) = cntD E k + (if 0 ≤ dv E k then 1 else 0) := by
  unfold cntD
  rw [List.range_succ, List.filter_append, List.length_append]
  by_cases h : 0 ≤ dv E k <;> simp [h]
theorem cntD_all {E : List Tm} (hn : (E.map Tm.h).Nodup) (hf : Few E) : cntD E 18 = E.length := by
  unfold cntD
  have h1 : (((List.range 18).filter fun j => decide (0 ≤ dv E j)).map hk).Nodup := by
    have : ((List.range 18).filter fun j => decide (0 ≤ dv E j)).Nodup := List.nodup_range.sublist List.filter_sublist
    exact List.Pairwise.map hk (fun a b h e => h (hk_inj e)) this
  have hp : (E.map Tm.h).Perm (((List.range 18).filter fun j => decide (0 ≤ dv E j)).map hk) := by
    rw [List.perm_ext_iff_of_nodup hn h1]
    intro a
    constructor
    · intro ha
      obtain ⟨t, ht, rfl⟩ := List.mem_map.1 ha
      obtain ⟨j, hj, e⟩ := hf t ht
      refine List.mem_map.2 ⟨j, List.mem_filter.2 ⟨by simpa using hj, ?_⟩, e.symm⟩
      rw [dv_mem hn ht e]; simp
    · intro ha
      obtain ⟨j, hj, rfl⟩ := List.mem_map.1 ha
      have h0 := (List.mem_filter.1 hj).2
      rw [dv_nn] at h0
      obtain ⟨t, ht, e, _⟩ := dv_some h0
      exact List.mem_map.2 ⟨t, ht, e⟩
  have := hp.length_eq
  rw [List.length_map, List.length_map] at this
  exact this.symm
end Go.Proofs.Ytgoaokgoenihlaa
