/- The document's row is the handles as they stand: what each method makes of it, in plain words. -/
import Derived.Test.YtgoaokgoenihlaaTwo
import Derived.Test.YtgoaokgoenihlaaRefE
namespace Go.Proofs.Ytgoaokgoenihlaa
open Go Go.RowKit Go.Deep Go.Maps

theorem tw_filter {p : Tm → Bool} : ∀ {L : List Tm}, L.Pairwise (fun x y => tlt y x = false) → (∀ x y, p x = false → tlt y x = false → p y = false) → L.takeWhile p = L.filter p ∧ L.dropWhile p = L.filter fun t => !p t
  | [], _, _ => ⟨rfl, rfl⟩
  | x :: l, h, hp => by
    obtain ⟨h1, h2⟩ := List.pairwise_cons.1 h
    have ih := tw_filter (p := p) h2 hp
    cases hx : p x
    · have hall : ∀ y ∈ l, p y = false := fun y hy => hp x y hx (h1 y hy)
      have e1 : l.filter p = [] := List.filter_eq_nil_iff.2 fun y hy => by simp [hall y hy]
      have e2 : (l.filter fun t => !p t) = l := List.filter_eq_self.2 fun y hy => by simp [hall y hy]
      simp [hx, e1, e2]
    · simp [hx, ih.1, ih.2]
theorem srt_mem {L : List Tm} {t : Tm} : t ∈ srt L ↔ t ∈ L := (srt_perm L).mem_iff
theorem srt_length (L : List Tm) : (srt L).length = L.length := (srt_perm L).length_eq
theorem srt_nodup {L : List Tm} (h : (L.map Tm.h).Nodup) : ((srt L).map Tm.h).Nodup := ((srt_perm L).map Tm.h).nodup_iff.2 h
/-- Turn. -/
theorem ref_turn (E : List Tm) (now : Nat) : ((srt E).takeWhile (dueNow now)).map Tm.h = turnR E now ∧ (srt E).dropWhile (dueNow now) = srt (turnT E now) := by
  have h := tw_filter (p := dueNow now) (srt_sorted E) (fun x y hx hy => by
    simp only [dueNow, decide_eq_false_iff_not, tlt] at *; omega)
  rw [h.1, h.2]
  unfold turnR turnT
  rw [srt_filter, srt_filter]
  exact ⟨rfl, rfl⟩
/-- Put. -/
theorem ref_ins (last : Nat) (E : List Tm) (x : Tm) : (⟨last, srt E⟩ : Rf).ins x = ⟨last, srt (E ++ [x])⟩ := by
  unfold Rf.ins
  have h := tw_filter (p := fun t => tlt t x) (srt_sorted E) (fun a b ha hb => tlt_ntrans b a x hb ha)
  have e0 := List.takeWhile_append_dropWhile (p := fun t => tlt t x) (l := srt E)
  have e1 : (srt E).take (iI (srt E) x) = (srt E).takeWhile fun t => tlt t x := by
    unfold iI
    conv => lhs; arg 2; rw [← e0]
    exact List.take_left
  have e2 : (srt E).drop (iI (srt E) x) = (srt E).dropWhile fun t => tlt t x := by
    unfold iI
    conv => lhs; arg 2; rw [← e0]
    exact List.drop_left
  show (⟨last, (srt E).take (iI (srt E) x) ++ [x] ++ (srt E).drop (iI (srt E) x)⟩ : Rf) = _
  rw [e1, e2]
  congr 1
  refine sorted_unique ?_ ?_ (srt_sorted _)
  · refine List.Perm.trans ?_ (srt_perm _).symm
    rw [List.append_assoc, List.singleton_append]
    refine List.perm_middle.trans ?_
    rw [e0]
    exact ((srt_perm E).cons x).trans (List.perm_append_comm (l₁ := [x]) (l₂ := E))
  · rw [h.1, h.2, List.append_assoc, List.singleton_append, List.pairwise_append]
    refine ⟨(srt_sorted E).sublist List.filter_sublist, ?_, fun a ha b hb => ?_⟩
    · rw [List.pairwise_cons]
      exact ⟨fun b hb => by simpa using (List.mem_filter.1 hb).2, (srt_sorted E).sublist List.filter_sublist⟩
    · have h1 := (List.mem_filter.1 ha).2
      rcases List.mem_cons.1 hb with rfl | hb
      · exact tlt_asymm h1
      · have h2 : tlt b x = false := by simpa using (List.mem_filter.1 hb).2
        cases e : tlt b a
        · rfl
        · have := tlt_trans _ _ _ e h1; rw [h2] at this; cases this
theorem fI_iff (L : List Tm) (a : Hn) : fI L a < L.length ↔ ∃ t ∈ L, t.h = a := by
  unfold fI
  rw [List.findIdx_lt_length]
  simp
theorem ref_find (E : List Tm) (a : Hn) : (fI (srt E) a < (srt E).length) ↔ (E.find? fun t => t.h == a).isSome = true := by
  rw [fI_iff, List.find?_isSome]
  simp [srt_mem]
theorem cut_filter (a : Hn) : ∀ (L : List Tm), (L.map Tm.h).Nodup → fI L a < L.length → L.take (fI L a) ++ L.drop (fI L a + 1) = L.filter fun t => !(t.h == a)
  | [], _, h => by simp at h
  | t :: l, hn, h => by
    rw [List.map_cons, List.nodup_cons] at hn
    unfold fI at *
    rw [List.findIdx_cons] at *
    cases hq : (t.h == a)
    · rw [hq] at h
      simp only [cond_false, List.length_cons] at h
      have ih := cut_filter a l hn.2 (by unfold fI; omega)
      unfold fI at ih
      simp [hq, ih]
    · have ht : t.h = a := by simpa using hq
      have hall : (l.filter fun t => !(t.h == a)) = l := List.filter_eq_self.2 fun u hu => by
        simp only [Bool.not_eq_true', beq_eq_false_iff_ne]
        intro e
        exact hn.1 (by rw [ht, ← e]; exact List.mem_map.2 ⟨u, hu, rfl⟩)
      simp [hq, hall]
theorem ref_cut {E : List Tm} (hn : (E.map Tm.h).Nodup) (a : Hn) (h : fI (srt E) a < (srt E).length) : (srt E).take (fI (srt E) a) ++ (srt E).drop (fI (srt E) a + 1) = srt (cutL E a) := by
  rw [cut_filter a _ (srt_nodup hn) h]
  unfold cutL
  rw [srt_filter]
theorem nodup_eq : ∀ {L : List Tm}, (L.map Tm.h).Nodup → ∀ {t u : Tm}, t ∈ L → u ∈ L → t.h = u.h → t = u
  | [], _, _, _, h, _, _ => by simp at h
  | x :: l, hn, t, u, ht, hu, e => by
    rw [List.map_cons, List.nodup_cons] at hn
    rcases List.mem_cons.1 ht with h1 | h1
    · rcases List.mem_cons.1 hu with h2 | h2
      · rw [h1, h2]
      · subst h1; exact (hn.1 (by rw [e]; exact List.mem_map.2 ⟨u, h2, rfl⟩)).elim
    · rcases List.mem_cons.1 hu with h2 | h2
      · subst h2; exact (hn.1 (by rw [← e]; exact List.mem_map.2 ⟨t, h1, rfl⟩)).elim
      · exact nodup_eq hn.2 h1 h2 e
theorem ref_due {E : List Tm} (hn : (E.map Tm.h).Nodup) (a : Hn) : dueR (srt E) a = dueV (E.find? fun t => t.h == a) := by
  unfold dueR
  by_cases h : fI (srt E) a < (srt E).length
  · rw [if_pos h]
    obtain ⟨t, ht⟩ := Option.isSome_iff_exists.1 ((ref_find E a).1 h)
    rw [ht]
    have h1 := List.mem_of_find?_eq_some ht
    have h2 : t.h = a := by simpa using List.find?_some ht
    have h3 := List.findIdx_getElem (xs := srt E) (p := fun t => t.h == a) (w := by unfold fI at h; exact h)
    have h4 : (srt E)[fI (srt E) a] = t := nodup_eq (srt_nodup hn) (List.getElem_mem h) (srt_mem.2 h1) (by rw [h2]; exact (beq_iff_eq.1 h3))
    have h5 : td (srt E) (fI (srt E) a) = t.d := by unfold td; rw [List.getD_eq_getElem?_getD, List.getElem?_eq_getElem h, h4]; rfl
    rw [h5]
    rfl
  · rw [if_neg h]
    have : (E.find? fun t => t.h == a) = none := by
      cases e : E.find? fun t => t.h == a with
      | none => rfl
      | some t => exact (h ((ref_find E a).2 (by rw [e]; rfl))).elim
    rw [this]
    rfl
theorem ref_next (E : List Tm) : hdV (srt E) = nextV E := by
  have hl := srt_length E
  cases hs : srt E with
  | nil =>
    rw [hs] at hl
    have : E = [] := List.eq_nil_of_length_eq_zero hl.symm
    subst this
    rfl
  | cons t l =>
    have hE : E ≠ [] := fun e => by rw [hs, e] at hl; simp at hl
    have hsr := srt_sorted E
    rw [hs] at hsr
    obtain ⟨h1, _⟩ := List.pairwise_cons.1 hsr
    have ht : t ∈ E := srt_mem.1 (by rw [hs]; exact List.mem_cons_self)
    have hall : ∀ u ∈ E, t.d ≤ u.d := fun u hu => by
      have hu' := srt_mem.2 hu
      rw [hs] at hu'
      rcases List.mem_cons.1 hu' with rfl | hu'
      · exact Nat.le_refl _
      · have := h1 u hu'
        simp only [tlt, decide_eq_false_iff_not] at this
        omega
    have hx : minD E = some (nx E) := by
      cases E with
      | nil => exact (hE rfl).elim
      | cons a l => rfl
    obtain ⟨⟨u, hu, hd⟩, hmin⟩ := minD_some hx
    have e : nx E = t.d := by
      have := hall u hu; have := hmin t ht; omega
    unfold nextV
    rw [ok_cons hE, e]
    rfl
end Go.Proofs.Ytgoaokgoenihlaa
