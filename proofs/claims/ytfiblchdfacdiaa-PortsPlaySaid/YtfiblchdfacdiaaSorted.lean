/- slices.SortFunc at rows: the row holds them as they stand. -/
import Derived.Test.YtfiblchdfacdiaaAhead
import Derived.Shelf.SlSortCmp.NoneTotal
namespace Go.Proofs.Ytfiblchdfacdiaa
open Go Go.RowKit Go.Deep Go.Maps Go.Shelf Go.Lib Go.Sort

def Try.sortRw_ren : Go.Shelf.Ren := ⟨fun | 6 => 35 | 15 => 43 | 14 => 42 | 28 => 58 | 29 => 59 | 20 => 50 | 21 => 51 | 22 => 52 | 23 => 53 | 24 => 54 | 25 => 55 | 26 => 56 | 27 => 57 | 46 => 64 | 47 => 65 | 48 => 66 | 49 => 67 | 50 => 68 | 57 => 69 | n => n, fun | 22 => 54 | 24 => 42 | 25 => 81 | 3 => 3 | 39 => 88 | 0 => 0 | 53 => 22 | 55 => 105 | 4 => 4 | 46 => 97 | 45 => 96 | 50 => 101 | 5 => 5 | 9 => 9 | 66 => 110 | 70 => 114 | 76 => 116 | 77 => 117 | n => n, fun | n => n⟩
theorem Try.sortRw : Go.Proofs.SlLaysF0.n6 Try.prog Try.sortRw_ren := {
  mixed := by kernel_rfl,
  f6 := ⟨Try.f35.name, by decide, Try.func35.trans (congrArg some (by kernel_rfl))⟩,
  f14 := ⟨Try.f42.name, by decide, Try.func42.trans (congrArg some (by kernel_rfl))⟩,
  f15 := Try.func43.trans (congrArg some (by kernel_rfl)),
  f20 := ⟨Try.f50.name, by decide, Try.func50.trans (congrArg some (by kernel_rfl))⟩,
  f21 := ⟨Try.f51.name, by decide, Try.func51.trans (congrArg some (by kernel_rfl))⟩,
  f22 := ⟨Try.f52.name, by decide, Try.func52.trans (congrArg some (by kernel_rfl))⟩,
  f23 := ⟨Try.f53.name, by decide, Try.func53.trans (congrArg some (by kernel_rfl))⟩,
  f24 := ⟨Try.f54.name, by decide, Try.func54.trans (congrArg some (by kernel_rfl))⟩,
  f25 := ⟨Try.f55.name, by decide, Try.func55.trans (congrArg some (by kernel_rfl))⟩,
  f26 := ⟨Try.f56.name, by decide, Try.func56.trans (congrArg some (by kernel_rfl))⟩,
  f27 := ⟨Try.f57.name, by decide, Try.func57.trans (congrArg some (by kernel_rfl))⟩,
  f28 := Try.func58.trans (congrArg some (by kernel_rfl)),
  f29 := Try.func59.trans (congrArg some (by kernel_rfl)),
  f46 := ⟨Try.f64.name, by decide, Try.func64.trans (congrArg some (by kernel_rfl))⟩,
  f47 := Try.func65.trans (congrArg some (by kernel_rfl)),
  f48 := Try.func66.trans (congrArg some (by kernel_rfl)),
  f49 := ⟨Try.f67.name, by decide, Try.func67.trans (congrArg some (by kernel_rfl))⟩,
  f50 := ⟨Try.f68.name, by decide, Try.func68.trans (congrArg some (by kernel_rfl))⟩,
  f57 := ⟨Try.f69.name, by decide, Try.func69.trans (congrArg some (by kernel_rfl))⟩,
  t0 := Try.underlying0,
  a0 := Try.isAgg0,
  z0 := Try.sizeOf0,
  v0 := Try.zeroValue0,
  t3 := Try.underlying3,
  a3 := Try.isAgg3,
  z3 := Try.sizeOf3,
  v3 := Try.zeroValue3,
  t4 := Try.underlying4,
  a4 := Try.isAgg4,
  z4 := Try.sizeOf4,
  v4 := Try.zeroValue4,
  t5 := Try.underlying5,
  a5 := Try.isAgg5,
  z5 := Try.sizeOf5,
  v5 := Try.zeroValue5,
  t9 := Try.underlying9,
  a9 := Try.isAgg9,
  z9 := Try.sizeOf9,
  v9 := Try.zeroValue9,
  t22 := Try.underlying54,
  a22 := Try.isAgg54,
  z22 := Try.sizeOf54,
  v22 := Try.zeroValue54,
  t25 := Try.underlying81,
  a25 := Try.isAgg81,
  z25 := Try.sizeOf81,
  v25 := Try.zeroValue81,
  t39 := Try.underlying88,
  a39 := Try.isAgg88,
  z39 := Try.sizeOf88,
  v39 := Try.zeroValue88,
  t45 := Try.underlying96,
  a45 := Try.isAgg96,
  z45 := Try.sizeOf96,
  v45 := Try.zeroValue96,
  t46 := Try.underlying97,
  a46 := Try.isAgg97,
  z46 := Try.sizeOf97,
  v46 := Try.zeroValue97,
  t50 := Try.underlying101,
  a50 := Try.isAgg101,
  z50 := Try.sizeOf101,
  v50 := Try.zeroValue101,
  t53 := Try.underlying22,
  a53 := Try.isAgg22,
  z53 := Try.sizeOf22,
  v53 := Try.zeroValue22,
  t55 := Try.underlying105,
  a55 := Try.isAgg105,
  z55 := Try.sizeOf105,
  v55 := Try.zeroValue105,
  t66 := Try.underlying110,
  a66 := Try.isAgg110,
  z66 := Try.sizeOf110,
  v66 := Try.zeroValue110,
  t70 := Try.underlying114,
  a70 := Try.isAgg114,
  z70 := Try.sizeOf114,
  v70 := Try.zeroValue114,
  t76 := Try.underlying116,
  a76 := Try.isAgg116,
  z76 := Try.sizeOf116,
  v76 := Try.zeroValue116,
  t77 := Try.underlying117,
  a77 := Try.isAgg117,
  z77 := Try.sizeOf117,
  v77 := Try.zeroValue117 }

theorem flat_get {α : Type} [Inhabited α] (enc : α → List Value) (k : Nat) (hk : ∀ x, (enc x).length = k) : ∀ (L : List α) (t : Nat), t < L.length * k → (L.flatMap enc)[t]? = some ((enc L.toArray[t / k]!)[t % k]!)
  | [], t, h => by simp at h
  | a :: l, t, h => by
    have h0 : 0 < k := by
      rcases Nat.eq_zero_or_pos k with e | e
      · subst e; simp at h
      · exact e
    rw [List.flatMap_cons]
    by_cases ht : t < k
    · rw [List.getElem?_append_left (by rw [hk]; exact ht), Nat.div_eq_of_lt ht, Nat.mod_eq_of_lt ht, List.getElem?_eq_getElem (by rw [hk]; exact ht)]
      simp [getElem!_pos, hk, ht]
    · rw [List.getElem?_append_right (by rw [hk]; omega), hk]
      have hl : t - k < l.length * k := by rw [List.length_cons, Nat.add_mul, Nat.one_mul] at h; omega
      have e1 : t / k = (t - k) / k + 1 := by rw [← Nat.add_div_right _ h0]; congr 1; omega
      have e2 : t % k = (t - k) % k := by rw [← Nat.add_mod_right (t - k) k]; congr 1; omega
      rw [flat_get enc k hk l (t - k) hl, e1, e2]
      simp
theorem flat_length {α : Type} (enc : α → List Value) (k : Nat) (hk : ∀ x, (enc x).length = k) : ∀ L : List α, (L.flatMap enc).length = L.length * k
  | [] => by simp
  | a :: l => by rw [List.flatMap_cons, List.length_append, hk, flat_length enc k hk l, List.length_cons, Nat.add_mul, Nat.one_mul, Nat.add_comm]
theorem flat_list {α : Type} [Inhabited α] (enc : α → List Value) (k : Nat) (hk : ∀ x, (enc x).length = k) (L : List α) : (flatK enc k L.toArray).toList = L.flatMap enc := by
  apply List.ext_getElem?
  intro t
  by_cases h : t < L.length * k
  · rw [flat_get enc k hk L t h, Array.getElem?_toList, getElem?_pos _ t (by simpa using h), ← get_flatK enc k L.toArray t (by simpa using h), getElem!_pos _ t (by simpa using h)]
  · rw [List.getElem?_eq_none (by simpa using h), List.getElem?_eq_none (by rw [flat_length enc k hk]; omega)]
/-- The row holds what the sort's contract asks. -/
theorem own_holds {α : Type} [Inhabited α] (enc : α → List Value) (k : Nat) (hk : ∀ x, (enc x).length = k) {w : World} {base e q cap : Nat} {L : List α} (h : w.ownsRow base e k (.slice (some ⟨q, 0, none⟩) L.length cap) L.length (L.flatMap enc)) :
    HoldsK enc k w q 0 L.toArray := by
  intro j hj
  have hj' : j < L.length * k := by simpa using hj
  refine ⟨?_, by rw [Nat.zero_add]; exact h.frozenAt j⟩
  rw [Nat.zero_add, h.cellAt j hj', flat_get enc k hk L j hj']
  rw [get_flatK enc k L.toArray j (by simpa using hj')]
  rfl
theorem putCells_take (F c : Array Value) (h : F.size ≤ c.size) : (putCells id 0 F c).toList.take F.size = F.toList := by
  apply List.ext_getElem?
  intro t
  by_cases ht : t < F.size
  · rw [List.getElem?_take_of_lt ht, Array.getElem?_toList, Array.getElem?_toList]
    simp [putCells, ht, show t < c.size from by omega]
  · rw [List.getElem?_eq_none (by simp; omega), List.getElem?_eq_none (by simpa using ht)]
/-- What the sort leaves is the same row, with other elements in it. -/
theorem own_sorted {α : Type} [Inhabited α] (enc : α → List Value) (k : Nat) (hk : ∀ x, (enc x).length = k) {w : World} {base e q cap : Nat} {L M : List α} (h : w.ownsRow base e k (.slice (some ⟨q, 0, none⟩) L.length cap) L.length (L.flatMap enc)) (hl : M.length = L.length) (n : Nat) (os : Array Obj) :
    (sortWorldK enc k w q 0 n M.toArray os).ownsRow base e k (.slice (some ⟨q, 0, none⟩) L.length cap) L.length (M.flatMap enc) ∧ Upto (fun i => i = q) w (sortWorldK enc k w q 0 n M.toArray os) := by
  obtain ⟨h1, h2⟩ := h
  rcases h2 with ⟨hv, _⟩ | ⟨g, cp, cur, hv, hb, hg, h3, h4, h5, h6⟩
  · simp at hv
  · simp only [Value.slice.injEq, Option.some.injEq, Addr.mk.injEq, and_true, true_and] at hv
    obtain ⟨rfl, rfl⟩ := hv
    have hql : q < w.heap.size := (Array.getElem?_eq_some_iff.1 hg).1
    have hF : (flatK enc k M.toArray).size = L.length * k := by simp [hl]
    have hblk : (sortWorldK enc k w q 0 n M.toArray os).heap[q]? = some (.cells (putCells id 0 (flatK enc k M.toArray) cur) e (0, 0)) := by
      unfold sortWorldK putRowK putRow mapBlock grow
      rw [Array.getElem?_append_left (by simpa using hql)]
      show (Array.modify (Sort.ahead w n).heap q _)[q]? = _
      rw [Array.getElem?_modify, if_pos rfl]
      show Option.map _ w.heap[q]? = _
      rw [hg]; rfl
    refine ⟨⟨by rw [flat_length enc k hk, hl], .inr ⟨q, cap, _, rfl, hb, hblk, h3, h4, by simpa [putCells] using h5, ?_⟩⟩, ⟨rfl, rfl, rfl, by simp [sortWorldK, putRowK, putRow, mapBlock, Sort.ahead], fun i hi hne => ?_⟩⟩
    · rw [← hF, putCells_take _ _ (by rw [hF, h5]; exact Nat.mul_le_mul_right k h3), flat_list enc k hk]
    · unfold sortWorldK putRowK putRow mapBlock grow
      rw [Array.getElem?_append_left (by simpa using hi)]
      show (Array.modify (Sort.ahead w n).heap q _)[i]? = _
      rw [Array.getElem?_modify, if_neg (fun e => hne e.symm)]
      rfl


theorem cfR_of (x y : Rw) : ltOf cfR x y = rlt x y := cfR_lt x y
theorem swoR : SWO (ltOf cfR) where
  irrefl x := by rw [cfR_of]; exact rlt_irrefl x
  trans x y z h1 h2 := by rw [cfR_of] at *; exact rlt_trans x y z h1 h2
  ntrans x y z h1 h2 := by rw [cfR_of] at *; exact rlt_ntrans x y z h1 h2
theorem wcs_len (x : Rw) : (wcs x).length = 7 := rfl
theorem srt_cf (L : List Rw) : (L.mergeSort fun x y => !(ltOf cfR) y x) = srt L := by
  unfold srt
  congr 1
  funext x y
  rw [cfR_of]
/-- What SortFunc leaves. -/
def SortPost (base : Nat) (v : Value) (L : List Rw) (w : World) (e : Ending) (w' : World) : Prop :=
  e = .returned (.tuple #[]) ∧ w'.ownsRow base 42 7 v L.length (wcl (srt L)) ∧ Upto (fun k => v.ownBlock = some k) w w'
/-- Rows of which no two have one outer endpoint. -/
def KeyO (L : List Rw) : Prop := L.Pairwise fun a b => ¬ same a b
theorem KeyO.one {L : List Rw} (h : KeyO L) {a b : Rw} (ha : a ∈ L) (hb : b ∈ L) (e : same a b) : a = b := by
  obtain ⟨i, hi, rfl⟩ := List.getElem_of_mem ha
  obtain ⟨j, hj, rfl⟩ := List.getElem_of_mem hb
  rcases Nat.lt_trichotomy i j with h1 | h1 | h1
  · exact absurd e (List.pairwise_iff_getElem.1 h i j hi hj h1)
  · subst h1; rfl
  · exact absurd (show same L[j] L[i] from ⟨e.1.symm, e.2.1.symm, e.2.2.symm⟩) (List.pairwise_iff_getElem.1 h j i hj hi h1)
theorem srt_sorted (L : List Rw) : (srt L).Pairwise fun x y => (!rlt y x) = true := by
  refine List.pairwise_mergeSort (fun a b c h1 h2 => ?_) (fun a b => ?_) L
  · simp only [Bool.not_eq_true'] at h1 h2 ⊢
    exact rlt_ntrans c b a h2 h1
  · simp only [rlt, Bool.or_eq_true, Bool.not_eq_true', decide_eq_false_iff_not]
    omega
theorem srt_of {L M : List Rw} (hk : KeyO L) (hp : M.Perm L) (hs : M.Pairwise fun x y => (!rlt y x) = true) : M = srt L := by
  refine List.Perm.eq_of_pairwise (le := fun x y => (!rlt y x) = true) ?_ hs (srt_sorted L) (hp.trans (srt_perm L).symm)
  intro a b ha hb h1 h2
  simp only [Bool.not_eq_true'] at h1 h2
  exact hk.one (hp.mem_iff.1 ha) ((srt_perm L).mem_iff.1 hb) (rlt_total a b h2 h1)
theorem sort_any (w : World) (base : Nat) (v : Value) (L : List Rw) (h : w.ownsRow base 42 7 v L.length (wcl L)) (hl : L.length ≤ 1000000) (hk : KeyO L) :
    Calls Try.prog 35 #[v, .func (.func 36) #[] #[]] w (SortPost base v L w) := by
  by_cases h0 : L.length = 0
  · obtain ⟨a, c, rfl, _⟩ := own_slice h
    have hL : L = [] := List.length_eq_zero_iff.1 h0
    subst hL
    have hcon := AnyF.slices_SortFunc_none Try.sortRw a c (.func (.func 36) #[] #[]) w
    change Calls Try.prog 35 _ _ _ at hcon
    refine hcon.mono ?_
    rintro e w' ⟨rfl, rfl⟩
    exact ⟨rfl, by rw [show srt [] = [] from by simp [srt]]; exact h, Upto.refl _ _⟩
  · obtain ⟨q, cap, rfl, hq1, hq2⟩ := own_form h (by omega)
    have hcmp : CmpLays Try.prog 36 #[] wcs 7 cfR q 0 L.toArray.size w := fun m os dk _ x y => order_any _ x y
    have eg : ∀ args w, (callFunc 36 args).run Try.prog w = .ok (.enter 36 args) w := enters_of Try.func36 (by kernel_rfl) rfl
    have hcon := AnyQ.slices_SortFunc Try.sortRw 7 Try.isAgg42 Try.sizeOf42 wcs wcs_len (fun x v hv => wcs_one x v hv) cfR swoR 36 #[] q 0 cap L.toArray w eg hcmp (own_holds wcs 7 wcs_len h) hq2 (by simp; omega)
    change Calls Try.prog 35 _ _ _ at hcon
    refine hcon.mono ?_
    rintro e w' ⟨rfl, d', n, os, ⟨hsz, _, hperm⟩, hSo, rfl⟩
    have e1 : d'.extract 0 L.toArray.size = d' := by rw [← hsz]; exact Array.extract_size
    rw [e1, Array.extract_size] at hperm
    have hM : d'.toList = srt L := srt_of hk (by simpa using hperm) (by
      rw [List.pairwise_iff_getElem]
      intro i j hi hj hij
      have hi' : i < d'.size := by simpa using hi
      have hj' : j < d'.size := by simpa using hj
      have := hSo i j (Nat.zero_le _) hij (by omega)
      rw [getElem!_pos d' j hj', getElem!_pos d' i hi', cfR_of] at this
      simpa using this)
    obtain ⟨h1, h2⟩ := own_sorted wcs 7 wcs_len h (srt_len L) n os
    rw [← hM, Array.toArray_toList] at h1 h2
    exact ⟨rfl, by rw [← hM]; exact h1, h2.mono (fun k _ hk => by rw [show k = q from hk]; rfl)⟩
end Go.Proofs.Ytfiblchdfacdiaa
