/- What a Turn tells, in plain words: all that are due, as they stand. -/
import Derived.Test.YtgoaokgoenihlaaModel
namespace Go.Proofs.Ytgoaokgoenihlaa

/-- Does one stand ahead of another one? -/
def tlt (a b : Tm) : Bool := decide (a.d < b.d ∨ a.d = b.d ∧ (a.h.s < b.h.s ∨ a.h.s = b.h.s ∧ a.h.g < b.h.g))
theorem tlt_irrefl (x : Tm) : tlt x x = false := by simp [tlt]
theorem tlt_trans (x y z : Tm) (h1 : tlt x y = true) (h2 : tlt y z = true) : tlt x z = true := by simp only [tlt, decide_eq_true_eq] at *; omega
theorem tlt_ntrans (x y z : Tm) (h1 : tlt x y = false) (h2 : tlt y z = false) : tlt x z = false := by simp only [tlt, decide_eq_false_iff_not] at *; omega
theorem tlt_total (x y : Tm) (h1 : tlt x y = false) (h2 : tlt y x = false) : x = y := by
  simp only [tlt, decide_eq_false_iff_not] at *
  obtain ⟨d, s, g⟩ := x; obtain ⟨d', s', g'⟩ := y
  simp only [Tm.mk.injEq, Hn.mk.injEq] at *
  omega
theorem tlt_asymm {x y : Tm} (h : tlt x y = true) : tlt y x = false := by
  cases e : tlt y x
  · rfl
  · have := tlt_trans _ _ _ h e; rw [tlt_irrefl] at this; cases this
/-- Timers, as they stand. -/
def srt (L : List Tm) : List Tm := L.mergeSort fun x y => !tlt y x
theorem srt_perm (L : List Tm) : (srt L).Perm L := List.mergeSort_perm _ _
theorem srt_sorted (L : List Tm) : (srt L).Pairwise fun x y => tlt y x = false := by
  have h := List.pairwise_mergeSort (le := fun x y : Tm => !tlt y x) ?_ ?_ L
  · exact h.imp fun h => by simpa using h
  · intro a b c h1 h2
    simp only [Bool.not_eq_true'] at h1 h2 ⊢
    exact tlt_ntrans c b a h2 h1
  · intro a b
    cases h : tlt b a with
    | false => simp
    | true => simp [tlt_asymm h]
theorem sorted_unique {L M : List Tm} (hp : L.Perm M) (hL : L.Pairwise fun x y => tlt y x = false) (hM : M.Pairwise fun x y => tlt y x = false) : L = M :=
  List.Perm.eq_of_pairwise (le := fun x y => tlt y x = false) (fun a b _ _ h1 h2 => (tlt_total a b h2 h1)) hL hM hp
theorem srt_of_perm {L M : List Tm} (hp : L.Perm M) : srt L = srt M := sorted_unique (((srt_perm L).trans hp).trans (srt_perm M).symm) (srt_sorted L) (srt_sorted M)
theorem srt_self {L : List Tm} (h : L.Pairwise fun x y => tlt y x = false) : srt L = L := sorted_unique (srt_perm L) (srt_sorted L) h
theorem srt_filter (L : List Tm) (p : Tm → Bool) : srt (L.filter p) = (srt L).filter p :=
  sorted_unique ((srt_perm _).trans ((srt_perm L).filter p).symm) (srt_sorted _) ((srt_sorted L).sublist List.filter_sublist)

/-- All that are due. -/
def Wh.due (S : Wh) (now : Nat) : List Tm := S.E.filter fun t => decide (t.d ≤ now)
/-- What Turn tells. -/
def Wh.told (S : Wh) (now : Nat) : List Tm := srt (S.due now)
/-- What the first m places hold that is due, place by place. -/
def Wh.some (S : Wh) (now m : Nat) : List Tm := (List.range m).flatMap fun j => (S.at ((S.last + j) % S.n)).filter fun t => decide (t.d ≤ now)
theorem Wh.some_succ (S : Wh) (now m : Nat) : S.some now (m + 1) = S.some now m ++ (S.at ((S.last + m) % S.n)).filter fun t => decide (t.d ≤ now) := by
  unfold Wh.some
  rw [List.range_succ, List.flatMap_append]
  simp
/-- Is it at one of the first m places? -/
def Wh.seen (S : Wh) (m : Nat) (k : Nat) : Bool := decide (∃ j, j < m ∧ k = (S.last + j) % S.n)
theorem Wh.seen_succ (S : Wh) (m k : Nat) : S.seen (m + 1) k = (S.seen m k || decide (k = (S.last + m) % S.n)) := by
  rw [Bool.eq_iff_iff]
  simp only [Wh.seen, Bool.or_eq_true, decide_eq_true_eq]
  constructor
  · rintro ⟨j, hj, e⟩
    by_cases h : j = m
    · exact .inr (by rw [← h]; exact e)
    · exact .inl ⟨j, by omega, e⟩
  · rintro (⟨j, hj, e⟩ | e)
    · exact ⟨j, by omega, e⟩
    · exact ⟨m, by omega, e⟩
theorem mod_ne {a n j m : Nat} (hjm : j < m) (hm : m < n) : ¬ (a + m) % n = (a + j) % n := by
  intro e
  have h1 := Nat.div_add_mod (a + m) n
  have h2 := Nat.div_add_mod (a + j) n
  rw [e] at h1
  have h3 : n * ((a + m) / n) = n * ((a + j) / n) + (m - j) := by omega
  have h4 : (a + m) / n ≤ (a + j) / n := by
    rcases Nat.lt_or_ge ((a + j) / n) ((a + m) / n) with h | h
    · have := Nat.mul_le_mul_left n (Nat.succ_le_of_lt h)
      rw [Nat.mul_succ] at this
      omega
    · exact h
  have := Nat.mul_le_mul_left n h4
  omega
theorem Wh.seen_new (S : Wh) {m : Nat} (hm : m < S.n) : S.seen m ((S.last + m) % S.n) = false := by
  simp only [Wh.seen, decide_eq_false_iff_not]
  rintro ⟨j, hj, e⟩
  exact mod_ne hj hm e
theorem filter_or_perm {α : Type} (p q : α → Bool) : ∀ (L : List α), (∀ x ∈ L, ¬ (p x = true ∧ q x = true)) → (L.filter fun x => p x || q x).Perm (L.filter p ++ L.filter q)
  | [], _ => by simp
  | x :: l, h => by
    have ih := filter_or_perm p q l fun y hy => h y (List.mem_cons_of_mem _ hy)
    have hx := h x List.mem_cons_self
    cases hp : p x <;> cases hq : q x
    · simpa [hp, hq] using ih
    · simp only [List.filter_cons, hp, hq, Bool.or_true, if_true, Bool.false_eq_true, if_false]
      exact (ih.cons x).trans List.perm_middle.symm
    · simpa [hp, hq] using ih
    · exact (hx ⟨hp, hq⟩).elim
theorem Wh.some_perm (S : Wh) (now : Nat) : ∀ m, m ≤ S.n → (S.some now m).Perm (S.E.filter fun t => decide (t.d ≤ now) && S.seen m (plc S.n S.last t.d))
  | 0, _ => by
    have : (S.E.filter fun t => decide (t.d ≤ now) && S.seen 0 (plc S.n S.last t.d)) = [] := List.filter_eq_nil_iff.2 fun t _ => by simp [Wh.seen]
    rw [this]
    simp [Wh.some]
  | m + 1, hm => by
    rw [Wh.some_succ]
    have ih := Wh.some_perm S now m (by omega)
    have e1 : (S.E.filter fun t => decide (t.d ≤ now) && S.seen (m + 1) (plc S.n S.last t.d)) = S.E.filter fun t => (decide (t.d ≤ now) && S.seen m (plc S.n S.last t.d)) || (decide (t.d ≤ now) && plc S.n S.last t.d == (S.last + m) % S.n) := by
      refine List.filter_congr fun t _ => ?_
      rw [Wh.seen_succ]
      cases decide (t.d ≤ now) <;> cases S.seen m (plc S.n S.last t.d) <;> simp [Bool.beq_eq_decide_eq]
    have e2 : ((S.at ((S.last + m) % S.n)).filter fun t => decide (t.d ≤ now)) = S.E.filter fun t => decide (t.d ≤ now) && plc S.n S.last t.d == (S.last + m) % S.n := by
      unfold Wh.at
      rw [List.filter_filter]
    rw [e1, e2]
    refine (ih.append_right _).trans (filter_or_perm _ _ _ fun t _ h => ?_).symm
    simp only [Bool.and_eq_true, beq_iff_eq] at h
    have := h.1.2
    rw [h.2.2, Wh.seen_new S (by omega)] at this
    cases this
/-- How many places are looked at. -/
def Wh.many (S : Wh) (now : Nat) : Nat := min (now - S.last + 1) S.n
theorem Wh.seen_all {S : Wh} (hS : S.Ok) {now : Nat} (hn : S.last ≤ now) {d : Nat} (hd : d ≤ now) : S.seen (S.many now) (plc S.n S.last d) = true := by
  have hp := hS.pos
  simp only [Wh.seen, decide_eq_true_eq]
  unfold Wh.many plc
  by_cases h : now - S.last + 1 ≤ S.n
  · exact ⟨max d S.last - S.last, by omega, by congr 1; omega⟩
  · refine ⟨(max d S.last - S.last) % S.n, ?_, ?_⟩
    · have := Nat.mod_lt (max d S.last - S.last) hp; omega
    · rw [Nat.add_mod_mod]; congr 1; omega
theorem Wh.some_all {S : Wh} (hS : S.Ok) {now : Nat} (hn : S.last ≤ now) : (S.some now (S.many now)).Perm (S.due now) := by
  refine (Wh.some_perm S now _ (by unfold Wh.many; omega)).trans ?_
  have : (S.E.filter fun t => decide (t.d ≤ now) && S.seen (S.many now) (plc S.n S.last t.d)) = S.due now := by
    unfold Wh.due
    refine List.filter_congr fun t _ => ?_
    by_cases h : t.d ≤ now
    · simp [h, Wh.seen_all hS hn h]
    · simp [h]
  rw [this]
theorem Wh.told_some {S : Wh} (hS : S.Ok) {now : Nat} (hn : S.last ≤ now) : srt (S.some now (S.many now)) = S.told now := srt_of_perm (Wh.some_all hS hn)
/-- What stands at a place while the first m have been looked at. -/
def Wh.mid (S : Wh) (now m k : Nat) : List Tm := if S.seen m k then (S.at k).filter (fun t => !decide (t.d ≤ now)) else S.at k
theorem Wh.mid_zero (S : Wh) (now : Nat) : S.mid now 0 = S.at := by
  funext k; simp [Wh.mid, Wh.seen]
theorem Wh.mid_new (S : Wh) {now m : Nat} (hm : m < S.n) : S.mid now m ((S.last + m) % S.n) = S.at ((S.last + m) % S.n) := by
  simp [Wh.mid, Wh.seen_new S hm]
theorem Wh.mid_succ (S : Wh) (now m : Nat) : S.mid now (m + 1) ((S.last + m) % S.n) = (S.at ((S.last + m) % S.n)).filter fun t => !decide (t.d ≤ now) := by
  simp [Wh.mid, Wh.seen_succ]
theorem Wh.mid_other (S : Wh) {now m k : Nat} (hk : k ≠ (S.last + m) % S.n) : S.mid now (m + 1) k = S.mid now m k := by
  simp [Wh.mid, Wh.seen_succ, hk]
/-- All places looked at: what stands at each is what stands there behind the Turn. -/
theorem Wh.mid_all {S : Wh} (hS : S.Ok) {now : Nat} (hn : S.last ≤ now) (k : Nat) : S.mid now (S.many now) k = (S.turn now).at k := by
  rw [Wh.turn_at hn]
  unfold Wh.mid
  split
  · rfl
  · rename_i hs
    symm
    rw [List.filter_eq_self]
    intro t ht
    unfold Wh.at at ht
    obtain ⟨_, h2⟩ := List.mem_filter.1 ht
    simp only [beq_iff_eq] at h2
    by_cases h : t.d ≤ now
    · have := Wh.seen_all hS hn h
      rw [h2] at this
      exact (hs this).elim
    · simp [h]
theorem Wh.mid_le {S : Wh} {now m k : Nat} : (S.mid now m k).length ≤ S.E.length := by
  unfold Wh.mid
  split
  · exact Nat.le_trans (List.length_filter_le _ _) (S.at_le k)
  · exact S.at_le k
theorem Wh.some_le {S : Wh} {now m : Nat} (hm : m ≤ S.n) : (S.some now m).length ≤ S.E.length := by
  rw [(Wh.some_perm S now m hm).length_eq]; exact List.length_filter_le _ _
/-- The first one's tick. -/
def minD : List Tm → Option Nat
  | [] => none
  | t :: l => some (match minD l with | none => t.d | some x => min x t.d)
theorem minD_snoc : ∀ (L : List Tm) (t : Tm), minD (L ++ [t]) = some (match minD L with | none => t.d | some x => min x t.d)
  | [], _ => rfl
  | a :: l, t => by
    simp only [List.cons_append, minD, minD_snoc l t, Option.some.injEq]
    cases minD l <;> simp [Nat.min_comm, Nat.min_assoc, Nat.min_left_comm]
theorem minD_perm {L M : List Tm} (h : L.Perm M) : minD L = minD M := by
  induction h with
  | nil => rfl
  | cons x _ ih => simp only [minD, ih]
  | swap x y l => simp only [minD, Option.some.injEq]; cases minD l <;> simp [Nat.min_comm, Nat.min_assoc, Nat.min_left_comm]
  | trans _ _ h1 h2 => exact h1.trans h2
theorem minD_none {L : List Tm} : minD L = none ↔ L = [] := by cases L <;> simp [minD]
theorem minD_some : ∀ {L : List Tm} {x : Nat}, minD L = some x → (∃ t ∈ L, t.d = x) ∧ ∀ t ∈ L, x ≤ t.d
  | [], _, h => by simp [minD] at h
  | a :: l, x, h => by
    simp only [minD, Option.some.injEq] at h
    cases e : minD l with
    | none =>
      rw [e] at h
      have := minD_none.1 e
      subst this
      simp at h ⊢
      exact ⟨h, by omega⟩
    | some y =>
      rw [e] at h
      obtain ⟨⟨t, ht, hd⟩, hall⟩ := minD_some e
      simp only at h
      refine ⟨?_, ?_⟩
      · by_cases hy : y ≤ a.d
        · exact ⟨t, List.mem_cons_of_mem _ ht, by omega⟩
        · exact ⟨a, List.mem_cons_self, by omega⟩
      · intro u hu
        rcases List.mem_cons.1 hu with rfl | hu
        · omega
        · have := hall u hu; omega
end Go.Proofs.Ytgoaokgoenihlaa
