/- slices.SortFunc at timers: the row holds them as they stand. -/
import Derived.Test.YtgoaokgoenihlaaWalkC
import Derived.Test.YtgoaokgoenihlaaInfo
import Derived.Shelf.SlSortCmp.NoneTotal
namespace Go.Proofs.Ytgoaokgoenihlaa
open Go Go.RowKit Go.Deep Go.Maps Go.Shelf Go.Lib Go.Sort

def Try.sortTm_ren : Go.Shelf.Ren := ⟨fun | 6 => 27 | 15 => 35 | 14 => 34 | 28 => 48 | 29 => 49 | 20 => 40 | 21 => 41 | 22 => 42 | 23 => 43 | 24 => 44 | 25 => 45 | 26 => 46 | 27 => 47 | 46 => 52 | 47 => 53 | 48 => 54 | 49 => 55 | 50 => 56 | 57 => 57 | n => n, fun | 22 => 67 | 24 => 69 | 25 => 72 | 3 => 3 | 39 => 81 | 0 => 0 | 53 => 29 | 55 => 95 | 4 => 4 | 46 => 88 | 45 => 87 | 50 => 32 | 5 => 5 | 9 => 9 | 66 => 99 | 70 => 103 | 76 => 105 | 77 => 106 | n => n, fun | n => n⟩
theorem Try.sortTm : Go.Proofs.SlLaysF0.n6 Try.prog Try.sortTm_ren := {
  mixed := by kernel_rfl,
  f6 := ⟨Try.f27.name, by decide, Try.func27.trans (congrArg some (by kernel_rfl))⟩,
  f14 := ⟨Try.f34.name, by decide, Try.func34.trans (congrArg some (by kernel_rfl))⟩,
  f15 := Try.func35.trans (congrArg some (by kernel_rfl)),
  f20 := ⟨Try.f40.name, by decide, Try.func40.trans (congrArg some (by kernel_rfl))⟩,
  f21 := ⟨Try.f41.name, by decide, Try.func41.trans (congrArg some (by kernel_rfl))⟩,
  f22 := ⟨Try.f42.name, by decide, Try.func42.trans (congrArg some (by kernel_rfl))⟩,
  f23 := ⟨Try.f43.name, by decide, Try.func43.trans (congrArg some (by kernel_rfl))⟩,
  f24 := ⟨Try.f44.name, by decide, Try.func44.trans (congrArg some (by kernel_rfl))⟩,
  f25 := ⟨Try.f45.name, by decide, Try.func45.trans (congrArg some (by kernel_rfl))⟩,
  f26 := ⟨Try.f46.name, by decide, Try.func46.trans (congrArg some (by kernel_rfl))⟩,
  f27 := ⟨Try.f47.name, by decide, Try.func47.trans (congrArg some (by kernel_rfl))⟩,
  f28 := Try.func48.trans (congrArg some (by kernel_rfl)),
  f29 := Try.func49.trans (congrArg some (by kernel_rfl)),
  f46 := ⟨Try.f52.name, by decide, Try.func52.trans (congrArg some (by kernel_rfl))⟩,
  f47 := Try.func53.trans (congrArg some (by kernel_rfl)),
  f48 := Try.func54.trans (congrArg some (by kernel_rfl)),
  f49 := ⟨Try.f55.name, by decide, Try.func55.trans (congrArg some (by kernel_rfl))⟩,
  f50 := ⟨Try.f56.name, by decide, Try.func56.trans (congrArg some (by kernel_rfl))⟩,
  f57 := ⟨Try.f57.name, by decide, Try.func57.trans (congrArg some (by kernel_rfl))⟩,
  t0 := Try.underlying0,
  a0 := Try.isAgg0,
  z0 := Try.sizeOf0,
  v0 := Try.zeroValue0,
  t3 := Try.underlying3,
  a3 := Try.isAgg3,
  z3 := Try.sizeOf3,
  v3 := Try.zeroValue3,
  t4 := Try.underlying4,
  a4 := Try.isAgg4,
  z4 := Try.sizeOf4,
  v4 := Try.zeroValue4,
  t5 := Try.underlying5,
  a5 := Try.isAgg5,
  z5 := Try.sizeOf5,
  v5 := Try.zeroValue5,
  t9 := Try.underlying9,
  a9 := Try.isAgg9,
  z9 := Try.sizeOf9,
  v9 := Try.zeroValue9,
  t22 := Try.underlying67,
  a22 := Try.isAgg67,
  z22 := Try.sizeOf67,
  v22 := Try.zeroValue67,
  t25 := Try.underlying72,
  a25 := Try.isAgg72,
  z25 := Try.sizeOf72,
  v25 := Try.zeroValue72,
  t39 := Try.underlying81,
  a39 := Try.isAgg81,
  z39 := Try.sizeOf81,
  v39 := Try.zeroValue81,
  t45 := Try.underlying87,
  a45 := Try.isAgg87,
  z45 := Try.sizeOf87,
  v45 := Try.zeroValue87,
  t46 := Try.underlying88,
  a46 := Try.isAgg88,
  z46 := Try.sizeOf88,
  v46 := Try.zeroValue88,
  t50 := Try.underlying32,
  a50 := Try.isAgg32,
  z50 := Try.sizeOf32,
  v50 := Try.zeroValue32,
  t53 := Try.underlying29,
  a53 := Try.isAgg29,
  z53 := Try.sizeOf29,
  v53 := Try.zeroValue29,
  t55 := Try.underlying95,
  a55 := Try.isAgg95,
  z55 := Try.sizeOf95,
  v55 := Try.zeroValue95,
  t66 := Try.underlying99,
  a66 := Try.isAgg99,
  z66 := Try.sizeOf99,
  v66 := Try.zeroValue99,
  t70 := Try.underlying103,
  a70 := Try.isAgg103,
  z70 := Try.sizeOf103,
  v70 := Try.zeroValue103,
  t76 := Try.underlying105,
  a76 := Try.isAgg105,
  z76 := Try.sizeOf105,
  v76 := Try.zeroValue105,
  t77 := Try.underlying106,
  a77 := Try.isAgg106,
  z77 := Try.sizeOf106,
  v77 := Try.zeroValue106 }

theorem flat_get {α : Type} [Inhabited α] (enc : α → List Value) (k : Nat) (hk : ∀ x, (enc x).length = k) : ∀ (L : List α) (t : Nat), t < L.length * k → (L.flatMap enc)[t]? = some ((enc L.toArray[t / k]!)[t % k]!)
  | [], t, h => by simp at h
  | a :: l, t, h => by
    have h0 : 0 < k := by
      rcases Nat.eq_zero_or_pos k with e | e
      · subst e; simp at h
      · exact e
    rw [List.flatMap_cons]
    by_cases ht : t < k
    · rw [List.getElem?_append_left (by rw [hk]; exact ht), Nat.div_eq_of_lt ht, Nat.mod_eq_of_lt ht, List.getElem?_eq_getElem (by rw [hk]; exact ht)]
      simp [getElem!_pos, hk, ht]
    · rw [List.getElem?_append_right (by rw [hk]; omega), hk]
      have hl : t - k < l.length * k := by rw [List.length_cons, Nat.add_mul, Nat.one_mul] at h; omega
      have e1 : t / k = (t - k) / k + 1 := by rw [← Nat.add_div_right _ h0]; congr 1; omega
      have e2 : t % k = (t - k) % k := by rw [← Nat.add_mod_right (t - k) k]; congr 1; omega
      rw [flat_get enc k hk l (t - k) hl, e1, e2]
      simp
theorem flat_length {α : Type} (enc : α → List Value) (k : Nat) (hk : ∀ x, (enc x).length = k) : ∀ L : List α, (L.flatMap enc).length = L.length * k
  | [] => by simp
  | a :: l => by rw [List.flatMap_cons, List.length_append, hk, flat_length enc k hk l, List.length_cons, Nat.add_mul, Nat.one_mul, Nat.add_comm]
theorem flat_list {α : Type} [Inhabited α] (enc : α → List Value) (k : Nat) (hk : ∀ x, (enc x).length = k) (L : List α) : (flatK enc k L.toArray).toList = L.flatMap enc := by
  apply List.ext_getElem?
  intro t
  by_cases h : t < L.length * k
  · rw [flat_get enc k hk L t h, Array.getElem?_toList, getElem?_pos _ t (by simpa using h), ← get_flatK enc k L.toArray t (by simpa using h), getElem!_pos _ t (by simpa using h)]
  · rw [List.getElem?_eq_none (by simpa using h), List.getElem?_eq_none (by rw [flat_length enc k hk]; omega)]
/-- The row holds what the sort's contract asks. -/
theorem own_holds {α : Type} [Inhabited α] (enc : α → List Value) (k : Nat) (hk : ∀ x, (enc x).length = k) {w : World} {base e q cap : Nat} {L : List α} (h : w.ownsRow base e k (.slice (some ⟨q, 0, none⟩) L.length cap) L.length (L.flatMap enc)) :
    HoldsK enc k w q 0 L.toArray := by
  intro j hj
  have hj' : j < L.length * k := by simpa using hj
  refine ⟨?_, by rw [Nat.zero_add]; exact h.frozenAt j⟩
  rw [Nat.zero_add, h.cellAt j hj', flat_get enc k hk L j hj']
  rw [get_flatK enc k L.toArray j (by simpa using hj')]
  rfl
theorem putCells_take (F c : Array Value) (h : F.size ≤ c.size) : (putCells id 0 F c).toList.take F.size = F.toList := by
  apply List.ext_getElem?
  intro t
  by_cases ht : t < F.size
  · rw [List.getElem?_take_of_lt ht, Array.getElem?_toList, Array.getElem?_toList]
    simp [putCells, ht, show t < c.size from by omega]
  · rw [List.getElem?_eq_none (by simp; omega), List.getElem?_eq_none (by simpa using ht)]
/-- What the sort leaves is the same row, with other elements in it. -/
theorem own_sorted {α : Type} [Inhabited α] (enc : α → List Value) (k : Nat) (hk : ∀ x, (enc x).length = k) {w : World} {base e q cap : Nat} {L M : List α} (h : w.ownsRow base e k (.slice (some ⟨q, 0, none⟩) L.length cap) L.length (L.flatMap enc)) (hl : M.length = L.length) (n : Nat) (os : Array Obj) :
    (sortWorldK enc k w q 0 n M.toArray os).ownsRow base e k (.slice (some ⟨q, 0, none⟩) L.length cap) L.length (M.flatMap enc) ∧ Upto (fun i => i = q) w (sortWorldK enc k w q 0 n M.toArray os) := by
  obtain ⟨h1, h2⟩ := h
  rcases h2 with ⟨hv, _⟩ | ⟨g, cp, cur, hv, hb, hg, h3, h4, h5, h6⟩
  · simp at hv
  · simp only [Value.slice.injEq, Option.some.injEq, Addr.mk.injEq, and_true, true_and] at hv
    obtain ⟨rfl, rfl⟩ := hv
    have hql : q < w.heap.size := (Array.getElem?_eq_some_iff.1 hg).1
    have hF : (flatK enc k M.toArray).size = L.length * k := by simp [hl]
    have hblk : (sortWorldK enc k w q 0 n M.toArray os).heap[q]? = some (.cells (putCells id 0 (flatK enc k M.toArray) cur) e (0, 0)) := by
      unfold sortWorldK putRowK putRow mapBlock grow
      rw [Array.getElem?_append_left (by simpa using hql)]
      show (Array.modify (Sort.ahead w n).heap q _)[q]? = _
      rw [Array.getElem?_modify, if_pos rfl]
      show Option.map _ w.heap[q]? = _
      rw [hg]; rfl
    refine ⟨⟨by rw [flat_length enc k hk, hl], .inr ⟨q, cap, _, rfl, hb, hblk, h3, h4, by simpa [putCells] using h5, ?_⟩⟩, ⟨rfl, rfl, rfl, by simp [sortWorldK, putRowK, putRow, mapBlock, Sort.ahead], fun i hi hne => ?_⟩⟩
    · rw [← hF, putCells_take _ _ (by rw [hF, h5]; exact Nat.mul_le_mul_right k h3), flat_list enc k hk]
    · unfold sortWorldK putRowK putRow mapBlock grow
      rw [Array.getElem?_append_left (by simpa using hi)]
      show (Array.modify (Sort.ahead w n).heap q _)[i]? = _
      rw [Array.getElem?_modify, if_neg (fun e => hne e.symm)]
      rfl

theorem cfT_of (x y : Tm) : ltOf cfT x y = tlt x y := cfT_lt x y
theorem swoT : SWO (ltOf cfT) where
  irrefl x := by rw [cfT_of]; exact tlt_irrefl x
  trans x y z h1 h2 := by rw [cfT_of] at *; exact tlt_trans x y z h1 h2
  ntrans x y z h1 h2 := by rw [cfT_of] at *; exact tlt_ntrans x y z h1 h2
theorem tcs_len (x : Tm) : (tcs x).length = 3 := rfl
theorem srt_cf (L : List Tm) : (L.mergeSort fun x y => !(ltOf cfT) y x) = srt L := by
  unfold srt
  congr 1
  funext x y
  rw [cfT_of]
theorem srt_len (L : List Tm) : (srt L).length = L.length := (srt_perm L).length_eq
/-- What SortFunc leaves. -/
def SortPost (base : Nat) (v : Value) (L : List Tm) (w : World) (e : Ending) (w' : World) : Prop :=
  e = .returned (.tuple #[]) ∧ w'.ownsRow base 69 3 v L.length (tcl (srt L)) ∧ Upto (fun k => v.ownBlock = some k) w w'
theorem sort_any (w : World) (base : Nat) (v : Value) (L : List Tm) (h : w.ownsRow base 69 3 v L.length (tcl L)) (hl : L.length ≤ 1000000) :
    Calls Try.prog 27 #[v, .func (.func 28) #[] #[]] w (SortPost base v L w) := by
  by_cases h0 : L.length = 0
  · obtain ⟨a, c, rfl, _⟩ := own_slice h
    have hL : L = [] := List.length_eq_zero_iff.1 h0
    subst hL
    have hcon := AnyF.slices_SortFunc_none Try.sortTm a c (.func (.func 28) #[] #[]) w
    change Calls Try.prog 27 _ _ _ at hcon
    refine hcon.mono ?_
    rintro e w' ⟨rfl, rfl⟩
    exact ⟨rfl, by rw [show srt [] = [] from by simp [srt]]; exact h, Upto.refl _ _⟩
  · obtain ⟨q, cap, rfl, hq1, hq2⟩ := own_form h (by omega)
    have hcmp : CmpLays Try.prog 28 #[] tcs 3 cfT q 0 L.toArray.size w := fun m os dk _ x y => order_any _ x y
    have eg : ∀ args w, (callFunc 28 args).run Try.prog w = .ok (.enter 28 args) w := enters_of Try.func28 (by kernel_rfl) rfl
    have hcon := AnyQ.slices_SortFunc_total Try.sortTm 3 Try.isAgg69 Try.sizeOf69 tcs tcs_len (fun x v hv => tcs_one x v hv) cfT swoT 28 #[] q 0 cap L.toArray w eg hcmp (own_holds tcs 3 tcs_len h) hq2 (by simp; omega)
      (fun x y h1 h2 => by rw [cfT_of] at h1 h2; exact tlt_total x y h1 h2)
    change Calls Try.prog 27 _ _ _ at hcon
    refine hcon.mono ?_
    rintro e w' ⟨rfl, n, os, rfl⟩
    rw [List.toList_toArray, srt_cf]
    obtain ⟨h1, h2⟩ := own_sorted tcs 3 tcs_len h (srt_len L) n os
    exact ⟨rfl, h1, h2.mono (fun k _ hk => by rw [show k = q from hk]; rfl)⟩
end Go.Proofs.Ytgoaokgoenihlaa
