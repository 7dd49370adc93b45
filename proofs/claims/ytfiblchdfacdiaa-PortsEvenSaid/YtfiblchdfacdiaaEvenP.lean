/- PortsEven's plain law: which port a wish gets. -/
import Derived.Test.YtfiblchdfacdiaaPick
import Derived.Test.YtfiblchdfacdiaaRefM
namespace Go.Proofs.Ytfiblchdfacdiaa
open Go Go.RowKit Go.Deep Go.Maps

theorem n_pos (W : Ws) : 0 < W.n := by unfold Ws.n; omega
theorem at_surj (W : Ws) (n : Nat) (h1 : W.fr ≤ n) (h2 : n ≤ W.tu) : ∃ i, i < W.n ∧ W.at i = n := by
  have hn := n_pos W
  have hd : W.dr % W.n < W.n := Nat.mod_lt _ hn
  have hlt : n - W.fr < W.n := by unfold Ws.n; omega
  refine ⟨(n - W.fr + W.n - W.dr % W.n) % W.n, Nat.mod_lt _ hn, ?_⟩
  unfold Ws.at
  have e : (W.dr + (n - W.fr + W.n - W.dr % W.n) % W.n) % W.n = n - W.fr := by
    rw [Nat.add_mod, Nat.mod_mod, ← Nat.add_mod_mod, Nat.mod_mod] 
    rw [Nat.add_mod_mod, show W.dr % W.n + (n - W.fr + W.n - W.dr % W.n) = n - W.fr + W.n by omega, Nat.add_mod_right, Nat.mod_eq_of_lt hlt]
  rw [e]
  omega
theorem mem_part1 (W : Ws) (n : Nat) (h1 : W.fr ≤ n) (h2 : n ≤ W.tu) : n ∈ W.part 1 W.n := by
  obtain ⟨i, hi, rfl⟩ := at_surj W n h1 h2
  unfold Ws.part
  exact List.mem_filter.2 ⟨List.mem_map.2 ⟨i, List.mem_range.2 hi, rfl⟩, rfl⟩
theorem mem_part0 (W : Ws) (n : Nat) (h1 : W.fr ≤ n) (h2 : n ≤ W.tu) (hs : skipB n W.ib = false) : n ∈ W.part 0 W.n := by
  obtain ⟨i, hi, rfl⟩ := at_surj W n h1 h2
  unfold Ws.part
  exact List.mem_filter.2 ⟨List.mem_map.2 ⟨i, List.mem_range.2 hi, rfl⟩, by rw [hs]; rfl⟩
theorem part0_par (W : Ws) {q : Nat} (h : q ∈ W.part 0 W.n) : skipB q W.ib = false := by
  unfold Ws.part at h
  have := (List.mem_filter.1 h).2
  cases hs : skipB q W.ib
  · rfl
  · rw [hs] at this; cases this
theorem own_mem (W : Ws) {q : Nat} (h : q ∈ W.own) : q = W.ib := by
  unfold Ws.own at h
  split at h
  · simpa using h
  · cases h
theorem tried_eq (W : Ws) : W.tried = W.own ++ W.part 0 W.n ++ W.part 1 W.n := by simp [Ws.tried, Ws.done]

/-- One of the ports is free. -/
def someF (W : Ws) (f : Nat → Bool) (g : Nat → Bool) : Prop := ∃ n, W.fr ≤ n ∧ n ≤ W.tu ∧ f n = true ∧ g n = true
theorem pick_law (W : Ws) (hW : W.Ok) (hm : W.may) (f : Nat → Bool) {n : Nat} (h1 : W.fr ≤ n) (h2 : n ≤ W.tu) (hf : f n = true) :
    ∃ q, W.tried.find? f = some q ∧ q < 65536 ∧ (W.fr ≤ W.ib → W.ib ≤ W.tu → f W.ib = true → q = W.ib) ∧ ((∃ m, W.fr ≤ m ∧ m ≤ W.tu ∧ f m = true ∧ m % 2 = W.ib % 2) → q % 2 = W.ib % 2) := by
  have hmem : n ∈ W.tried := by rw [tried_eq]; exact List.mem_append_right _ (mem_part1 W n h1 h2)
  obtain ⟨q, hq⟩ : ∃ q, W.tried.find? f = some q := by
    cases hc : W.tried.find? f with
    | some q => exact ⟨q, rfl⟩
    | none => have := List.find?_eq_none.1 hc n hmem; exact absurd hf this
  have hin := tried_in W hm.2 q (List.mem_of_find?_eq_some hq)
  have ht := hW.tu
  refine ⟨q, hq, by omega, fun g1 g2 g3 => ?_, ?_⟩
  · have hO : W.own = [W.ib] := if_pos ⟨g1, g2⟩
    rw [tried_eq, hO, List.append_assoc, List.singleton_append, List.find?_cons, g3] at hq
    exact (Option.some.inj hq).symm
  · rintro ⟨m, m1, m2, m3, m4⟩
    have hsk : skipB m W.ib = false := by rw [skip_eq m W.ib (by omega) hW.ib]; simp [m4]
    have hm0 := mem_part0 W m m1 m2 hsk
    rw [tried_eq, List.find?_append] at hq
    have hex : ∃ y, (W.own ++ W.part 0 W.n).find? f = some y := by
      cases hc : (W.own ++ W.part 0 W.n).find? f with
      | some y => exact ⟨y, rfl⟩
      | none => have := List.find?_eq_none.1 hc m (List.mem_append_right _ hm0); exact absurd m3 this
    obtain ⟨y, hy⟩ := hex
    rw [hy] at hq
    obtain rfl : y = q := Option.some.inj hq
    rcases List.mem_append.1 (List.mem_of_find?_eq_some hy) with ho | hp
    · rw [own_mem W ho]
    · have := part0_par W hp
      rw [skip_eq y W.ib (by omega) hW.ib] at this
      simpa using this
theorem pick_none (W : Ws) (hm : W.may) (f : Nat → Bool) (h : ∀ n, W.fr ≤ n → n ≤ W.tu → f n = false) : W.tried.find? f = none := by
  refine List.find?_eq_none.2 fun y hy => ?_
  have := tried_in W hm.2 y hy
  rw [h y this.1 this.2]
  simp

/-! Counting the first k ports. -/
def cnt (a : Nat) (f : Nat → Bool) : Nat → Nat
  | 0 => 0
  | k + 1 => cnt a f k + (if f (a + k) = true then 1 else 0)
theorem cnt_le (a : Nat) (f : Nat → Bool) (k : Nat) : cnt a f k ≤ k := by
  induction k with
  | zero => exact Nat.le_refl _
  | succ k ih => unfold cnt; split <;> omega
theorem cnt_zero (a : Nat) (f : Nat → Bool) (k : Nat) : cnt a f k = 0 ↔ ∀ i, i < k → f (a + i) = false := by
  induction k with
  | zero => exact ⟨fun _ i hi => by omega, fun _ => rfl⟩
  | succ k ih =>
    unfold cnt
    constructor
    · intro h i hi
      have h0 : cnt a f k = 0 := by omega
      rcases Nat.lt_or_ge i k with hlt | hge
      · exact ih.1 h0 i hlt
      · obtain rfl : i = k := by omega
        cases hc : f (a + i)
        · rfl
        · rw [hc] at h; simp at h
    · intro h
      rw [ih.2 (fun i hi => h i (by omega)), h k (by omega)]
      rfl
def anyB (a : Nat) (f : Nat → Bool) : Nat → Bool
  | 0 => false
  | k + 1 => anyB a f k || f (a + k)
theorem anyB_true (a : Nat) (f : Nat → Bool) (k : Nat) (h : anyB a f k = true) : ∃ i, i < k ∧ f (a + i) = true := by
  induction k with
  | zero => cases h
  | succ k ih =>
    unfold anyB at h
    rcases Bool.or_eq_true_iff.1 h with h | h
    · obtain ⟨i, hi, hf⟩ := ih h
      exact ⟨i, by omega, hf⟩
    · exact ⟨k, by omega, h⟩

/-- Rows of others: all of the wish's protocol and outer address, of the inner address one on, of ports below j. -/
structure Ot2 (W : Ws) (j : Nat) (T : List (Rw × Nat)) : Prop where
  each : ∀ r ∈ T, r.1.p = W.p ∧ r.1.oa = W.ip ∧ r.1.ia = (W.ia + 1) % 4294967296 ∧ r.1.ib < j
  many : T.length ≤ j
theorem Ot2.noI {W : Ws} {j : Nat} {T : List (Rw × Nat)} (h : Ot2 W j T) : fI T W.p ((W.ia + 1) % 4294967296) j = none := by
  refine List.find?_eq_none.2 fun r hr => ?_
  obtain ⟨_, _, h2, h3⟩ := h.each r hr
  have hne : ¬ r.1.ib = j := by omega
  simp [hne]
theorem Ot2.own {W : Ws} {j : Nat} {T : List (Rw × Nat)} (h : Ot2 W j T) (hW : W.Ok) : fI T W.p W.ia W.ib = none := by
  refine List.find?_eq_none.2 fun r hr => ?_
  obtain ⟨_, _, h2, h3⟩ := h.each r hr
  have := hW.ia
  have hne : ¬ r.1.ia = W.ia := by omega
  simp [hne]
theorem Ot2.next {W : Ws} {j : Nat} {T : List (Rw × Nat)} (h : Ot2 W j T) : Ot2 W (j + 1) T :=
  ⟨fun r hr => by obtain ⟨a, b, c, d⟩ := h.each r hr; exact ⟨a, b, c, by omega⟩, by have := h.many; omega⟩
theorem Ot2.add {W : Ws} {j : Nat} {T : List (Rw × Nat)} (h : Ot2 W j T) (q k : Nat) : Ot2 W (j + 1) (T ++ [(newR W.p W.ip q ((W.ia + 1) % 4294967296) j, k)]) := by
  refine ⟨fun r hr => ?_, by have := h.many; simp; omega⟩
  rcases List.mem_append.1 hr with hr | hr
  · exact h.next.each r hr
  · simp at hr
    subst hr
    exact ⟨rfl, rfl, rfl, Nat.lt_succ_self j⟩
/-- Is a port nobody's, by the rows with their blocks? -/
def freeT (T : List (Rw × Nat)) (W : Ws) (n : Nat) : Bool := (fO T W.p W.ip n).isNone
theorem pickR_T (T : List (Rw × Nat)) (W : Ws) : pickR (T.map Prod.fst) W = W.tried.find? (freeT T W) := by
  unfold pickR freeT
  congr 1
  funext n
  exact (free_eq T W.p W.ip n).symm
def parT (W : Ws) (n : Nat) : Bool := n % 2 == W.ib % 2
end Go.Proofs.Ytfiblchdfacdiaa
