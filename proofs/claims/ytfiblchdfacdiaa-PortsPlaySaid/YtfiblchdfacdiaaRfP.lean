/- PortsPlay's plain law: the document's rows, in order, stand as the program's. -/
import Derived.Test.YtfiblchdfacdiaaRfF
import Derived.Test.YtfiblchdfacdiaaOwnP
namespace Go.Proofs.Ytfiblchdfacdiaa
open Go Go.RowKit Go.Deep Go.Maps

theorem same_symm {a b : Rw} (h : same a b) : same b a := ⟨h.1.symm, h.2.1.symm, h.2.2.symm⟩
theorem KeyO.srt {R : List Rw} (h : KeyO R) : KeyO (srt R) := h.perm (srt_perm R).symm (fun {a b} h e => h (same_symm e))
theorem KeyI.srt {R : List Rw} (h : KeyI R) : KeyI (srt R) := List.Pairwise.perm h (srt_perm R).symm (fun {a b} h e => h ⟨e.1.symm, e.2.1.symm, e.2.2.symm⟩)
theorem mem_srt {R : List Rw} {r : Rw} : r ∈ srt R ↔ r ∈ R := (srt_perm R).mem_iff
theorem pO_iff (p a b : Nat) (r : Rw) : pO p a b r = true ↔ r.p = p ∧ r.oa = a ∧ r.ob = b := by simp [pO, and_assoc]
theorem pI_iff (p a b : Nat) (r : Rw) : pI p a b r = true ↔ r.p = p ∧ r.ia = a ∧ r.ib = b := by simp [pI, and_assoc]
theorem iO_hit {L : List Rw} {p a b : Nat} (h : iO L p a b < L.length) : (rwAt L (iO L p a b)).p = p ∧ (rwAt L (iO L p a b)).oa = a ∧ (rwAt L (iO L p a b)).ob = b := by
  have := List.findIdx_getElem (xs := L) (p := pO p a b) (w := h)
  rw [rwAt_get L h]
  exact (pO_iff p a b _).1 this
theorem iI_hit {L : List Rw} {p a b : Nat} (h : iI L p a b < L.length) : (rwAt L (iI L p a b)).p = p ∧ (rwAt L (iI L p a b)).ia = a ∧ (rwAt L (iI L p a b)).ib = b := by
  have := List.findIdx_getElem (xs := L) (p := pI p a b) (w := h)
  rw [rwAt_get L h]
  exact (pI_iff p a b _).1 this
theorem gO_srt_none {R : List Rw} {p a b : Nat} (h : gO R p a b = none) : ¬ iO (srt R) p a b < (srt R).length := by
  intro hlt
  exact gO_none h _ (mem_srt.1 (rwAt_mem _ hlt)) (iO_hit hlt)
theorem gO_srt_some {R : List Rw} (hk : KeyO R) {p a b : Nat} {r : Rw} (h : gO R p a b = some r) : iO (srt R) p a b < (srt R).length ∧ rwAt (srt R) (iO (srt R) p a b) = r := by
  obtain ⟨h1, e⟩ := gO_mem h
  have hlt : iO (srt R) p a b < (srt R).length := List.findIdx_lt_length_of_exists ⟨r, mem_srt.2 h1, (pO_iff p a b r).2 e⟩
  exact ⟨hlt, hk.found h _ (mem_srt.1 (rwAt_mem _ hlt)) (iO_hit hlt)⟩
theorem gI_none {R : List Rw} {p a b : Nat} (h : gI R p a b = none) : ∀ s ∈ R, ¬ (s.p = p ∧ s.ia = a ∧ s.ib = b) := fun s hs e => by
  have := List.find?_eq_none.1 h s hs
  simp [e.1, e.2.1, e.2.2] at this
theorem KeyI.one {L : List Rw} (h : KeyI L) {a b : Rw} (ha : a ∈ L) (hb : b ∈ L) (e : a.p = b.p ∧ a.ia = b.ia ∧ a.ib = b.ib) : a = b := by
  obtain ⟨i, hi, rfl⟩ := List.getElem_of_mem ha
  obtain ⟨j, hj, rfl⟩ := List.getElem_of_mem hb
  rcases Nat.lt_trichotomy i j with h1 | h1 | h1
  · exact absurd e (List.pairwise_iff_getElem.1 h i j hi hj h1)
  · subst h1; rfl
  · exact absurd ⟨e.1.symm, e.2.1.symm, e.2.2.symm⟩ (List.pairwise_iff_getElem.1 h j i hj hi h1)
theorem gI_srt_none {R : List Rw} {p a b : Nat} (h : gI R p a b = none) : ¬ iI (srt R) p a b < (srt R).length := by
  intro hlt
  exact gI_none h _ (mem_srt.1 (rwAt_mem _ hlt)) (iI_hit hlt)
theorem gI_srt_some {R : List Rw} (hk : KeyI R) {p a b : Nat} {r : Rw} (h : gI R p a b = some r) : iI (srt R) p a b < (srt R).length ∧ rwAt (srt R) (iI (srt R) p a b) = r := by
  obtain ⟨h1, e1, e2, e3⟩ := gI_mem h
  have hlt : iI (srt R) p a b < (srt R).length := List.findIdx_lt_length_of_exists ⟨r, mem_srt.2 h1, (pI_iff p a b r).2 ⟨e1, e2, e3⟩⟩
  obtain ⟨f1, f2, f3⟩ := iI_hit hlt
  exact ⟨hlt, hk.one (mem_srt.1 (rwAt_mem _ hlt)) h1 ⟨f1.trans e1.symm, f2.trans e2.symm, f3.trans e3.symm⟩⟩
/-- One row, at its place. -/
theorem set_of_upd {L : List Rw} (hk : KeyO L) {k : Nat} (hlt : k < L.length) (f : Rw → Rw) : L.set k (f (rwAt L k)) = updR L (rwAt L k).p (rwAt L k).oa (rwAt L k).ob f := by
  unfold updR
  apply List.ext_getElem
  · simp
  · intro i h1 h2
    have hi : i < L.length := by simpa using h1
    rw [List.getElem_set, List.getElem_map]
    by_cases e : k = i
    · subst e
      rw [if_pos rfl, ← rwAt_get L hi, if_pos ⟨rfl, rfl, rfl⟩]
    · rw [if_neg e, if_neg]
      intro h
      have h' : same L[i] (rwAt L k) := h
      rw [rwAt_get L hlt] at h'
      rcases Nat.lt_or_gt_of_ne e with h3 | h3
      · exact List.pairwise_iff_getElem.1 hk k i hlt hi h3 (same_symm h')
      · exact List.pairwise_iff_getElem.1 hk i k hi hlt h3 h'
theorem del_mid {A B : List Rw} {r : Rw} (hk : KeyO (A ++ r :: B)) : delR (A ++ r :: B) r.p r.oa r.ob = A ++ B := by
  unfold KeyO at hk
  rw [List.pairwise_append, List.pairwise_cons] at hk
  obtain ⟨_, ⟨h2, _⟩, h3⟩ := hk
  unfold delR
  rw [List.filter_append, List.filter_cons, decide_eq_true (⟨rfl, rfl, rfl⟩ : r.p = r.p ∧ r.oa = r.oa ∧ r.ob = r.ob)]
  rw [List.filter_eq_self.2, List.filter_eq_self.2]
  · simp
  · intro s hs
    rw [Bool.not_eq_true', decide_eq_false_iff_not]
    exact fun e => h2 s hs ⟨e.1.symm, e.2.1.symm, e.2.2.symm⟩
  · intro s hs
    rw [Bool.not_eq_true', decide_eq_false_iff_not]
    exact fun e => h3 s hs r List.mem_cons_self e
theorem cut_of_del {L : List Rw} (hk : KeyO L) {k : Nat} (hlt : k < L.length) : L.take k ++ L.drop (k + 1) = delR L (rwAt L k).p (rwAt L k).oa (rwAt L k).ob := by
  have hL : L = L.take k ++ rwAt L k :: L.drop (k + 1) := by rw [rwAt_get L hlt, ← List.drop_eq_getElem_cons hlt, List.take_append_drop]
  have := del_mid (A := L.take k) (B := L.drop (k + 1)) (r := rwAt L k) (by rw [← hL]; exact hk)
  rw [← hL] at this
  exact this.symm
theorem rlt_keys {f : Rw → Rw} (hf : KeepsKeys f) {a b : Rw} {P Q : Prop} [Decidable P] [Decidable Q] : rlt (if P then f a else a) (if Q then f b else b) = rlt a b := by
  unfold rlt
  split <;> split <;> simp only [hf.p, hf.oa, hf.ob]
theorem KeyO.upd {R : List Rw} (hk : KeyO R) {f : Rw → Rw} (hf : KeepsKeys f) (p a b : Nat) : KeyO (updR R p a b f) := by
  unfold KeyO updR
  rw [List.pairwise_map]
  refine List.Pairwise.imp (fun {x y} h e => h ?_) hk
  unfold same at e
  have hx : ∀ (z : Rw) (P : Prop) [Decidable P], (if P then f z else z).p = z.p ∧ (if P then f z else z).oa = z.oa ∧ (if P then f z else z).ob = z.ob := fun z P _ => by
    split
    · exact ⟨hf.p z, hf.oa z, hf.ob z⟩
    · exact ⟨rfl, rfl, rfl⟩
  rw [(hx x _).1, (hx x _).2.1, (hx x _).2.2, (hx y _).1, (hx y _).2.1, (hx y _).2.2] at e
  exact e
theorem srt_upd {R : List Rw} (hk : KeyO R) {f : Rw → Rw} (hf : KeepsKeys f) (p a b : Nat) : updR (srt R) p a b f = srt (updR R p a b f) := by
  refine srt_of (hk.upd hf p a b) ((srt_perm R).map _) ?_
  unfold updR
  rw [List.pairwise_map]
  refine List.Pairwise.imp (fun {x y} h => ?_) (srt_sorted R)
  rw [rlt_keys hf]
  exact h
theorem srt_del {R : List Rw} (hk : KeyO R) (p a b : Nat) : delR (srt R) p a b = srt (delR R p a b) := by
  refine srt_of (List.Pairwise.sublist List.filter_sublist hk) ((srt_perm R).filter _) ?_
  exact List.Pairwise.sublist List.filter_sublist (srt_sorted R)
theorem rlt_asymm {a b : Rw} (h : rlt a b = true) : rlt b a = false := by
  cases e : rlt b a
  · rfl
  · have := rlt_trans a b a h e
    rw [rlt_irrefl] at this; cases this
theorem srt_ins {R : List Rw} {r : Rw} (hk : KeyO (R ++ [r])) : insR (srt R) r = srt (R ++ [r]) := by
  have hs := srt_sorted R
  obtain ⟨L, hL⟩ : ∃ L, srt R = L := ⟨_, rfl⟩
  have hp : L.Perm R := by rw [← hL]; exact srt_perm R
  rw [hL] at hs ⊢
  refine srt_of hk ?_ ?_
  · unfold insR
    refine List.perm_middle.trans ?_
    rw [List.take_append_drop]
    exact (hp.cons r).trans (List.perm_append_singleton r R).symm
  · unfold insR
    have hsp : L = L.take (L.findIdx (rlt r)) ++ L.drop (L.findIdx (rlt r)) := (List.take_append_drop _ _).symm
    have hA : ∀ x ∈ L.take (L.findIdx (rlt r)), rlt r x = false := fun x hx => by
      obtain ⟨i, hi, rfl⟩ := List.getElem_of_mem hx
      rw [List.getElem_take]
      have : i < L.findIdx (rlt r) := by rw [List.length_take] at hi; omega
      have := List.not_of_lt_findIdx this
      simpa using this
    have hB : ∀ y ∈ L.drop (L.findIdx (rlt r)), rlt y r = false := fun y hy => by
      obtain ⟨i, hi, rfl⟩ := List.getElem_of_mem hy
      rw [List.getElem_drop]
      rw [List.length_drop] at hi
      have hj : L.findIdx (rlt r) < L.length := by omega
      have h1 := List.findIdx_getElem (xs := L) (p := rlt r) (w := hj)
      cases e : rlt L[L.findIdx (rlt r) + i] r
      · rfl
      · have h2 := rlt_trans _ _ _ e h1
        rcases Nat.eq_zero_or_pos i with e0 | e0
        · subst e0
          have h2' : rlt L[L.findIdx (rlt r)] L[L.findIdx (rlt r)] = true := h2
          rw [rlt_irrefl] at h2'; cases h2'
        · have := List.pairwise_iff_getElem.1 hs (L.findIdx (rlt r)) (L.findIdx (rlt r) + i) hj (by omega) (by omega)
          rw [h2] at this
          cases this
    rw [hsp] at hs
    rw [List.pairwise_append] at hs ⊢
    obtain ⟨s1, s2, s3⟩ := hs
    refine ⟨?_, ?_, ?_⟩
    · exact s1
    · rw [List.pairwise_cons]
      refine ⟨fun y hy => by rw [hB y hy]; rfl, ?_⟩
      exact s2
    · intro x hx y hy
      rcases List.mem_cons.1 hy with rfl | hy
      · rw [hA x hx]; rfl
      · exact s3 x hx y hy
theorem pick_srt (R : List Rw) (W : Ws) : pickR (srt R) W = pickR R W := by
  unfold pickR
  congr 1
  funext q
  unfold freeB
  congr 1
  rw [Bool.eq_iff_iff, List.any_eq_true, List.any_eq_true]
  simp only [mem_srt]
theorem set_upd {R : List Rw} (hk : KeyO R) {f : Rw → Rw} (hf : KeepsKeys f) {k : Nat} (hlt : k < (srt R).length) {r : Rw} (hr : rwAt (srt R) k = r) : (srt R).set k (f r) = srt (updR R r.p r.oa r.ob f) := by
  rw [← srt_upd hk hf, ← hr]
  exact set_of_upd hk.srt hlt f
theorem cut_del {R : List Rw} (hk : KeyO R) {k : Nat} (hlt : k < (srt R).length) {r : Rw} (hr : rwAt (srt R) k = r) : (srt R).take k ++ (srt R).drop (k + 1) = srt (delR R r.p r.oa r.ob) := by
  rw [← srt_del hk, ← hr]
  exact cut_of_del hk.srt hlt
theorem cf_same {R : List Rw} (hk : KeyO R) (p a b : Nat) : cfL (srt R) p a b = ((cf R p a b).1, srt (cf R p a b).2) := by
  unfold cfL cf
  cases h : gO R p a b with
  | none => rw [if_neg (gO_srt_none h)]
  | some r =>
    obtain ⟨h1, h2⟩ := gO_srt_some hk h
    obtain ⟨_, e1, e2, e3⟩ := gO_mem h
    rw [if_pos h1, h2]
    simp only
    split
    · rfl
    · rw [set_upd hk conf_keys h1 h2, e1, e2, e3]
theorem dr_same {R : List Rw} (hk : KeyO R) (p a b : Nat) : drL (srt R) p a b = ((dr R p a b).1, srt (dr R p a b).2) := by
  unfold drL dr
  cases h : gO R p a b with
  | none => rw [if_neg (gO_srt_none h)]
  | some r =>
    obtain ⟨h1, h2⟩ := gO_srt_some hk h
    obtain ⟨_, e1, e2, e3⟩ := gO_mem h
    rw [if_pos h1, h2]
    simp only
    split
    · rfl
    · split
      · rw [cut_del hk h1 h2, e1, e2, e3]
      · rw [set_upd hk drp_keys h1 h2, e1, e2, e3]
theorem rl_same {R : List Rw} (hk : KeyO R) (p a b : Nat) : rlL (srt R) p a b = ((rl R p a b).1, srt (rl R p a b).2) := by
  unfold rlL rl
  cases h : gO R p a b with
  | none => rw [if_neg (gO_srt_none h)]
  | some r =>
    obtain ⟨h1, h2⟩ := gO_srt_some hk h
    obtain ⟨_, e1, e2, e3⟩ := gO_mem h
    rw [if_pos h1, h2]
    simp only
    split
    · rfl
    · split
      · rw [cut_del hk h1 h2, e1, e2, e3]
      · rw [set_upd hk rels_keys h1 h2, e1, e2, e3]
theorem KeyO.snoc {R : List Rw} (hk : KeyO R) {r : Rw} (h : ∀ s ∈ R, ¬ (s.p = r.p ∧ s.oa = r.oa ∧ s.ob = r.ob)) : KeyO (R ++ [r]) := by
  unfold KeyO
  rw [List.pairwise_append]
  refine ⟨hk, by simp, fun a ha b hb => ?_⟩
  simp at hb
  subst hb
  exact h a ha
theorem fx_same {R : List Rw} (hk : KeyO R) (hi : KeyI R) (p ia ib oa ob : Nat) : fxL (srt R) p ia ib oa ob = ((fx R p ia ib oa ob).1, srt (fx R p ia ib oa ob).2) := by
  unfold fxL fx
  cases h : gI R p ia ib with
  | some r =>
    obtain ⟨h1, h2⟩ := gI_srt_some hi h
    obtain ⟨_, e1, e2, e3⟩ := gI_mem h
    rw [if_pos h1, h2]
    simp only
    split
    · next e => rw [set_upd hk hold_keys h1 h2, e1, e.1, e.2]
    · rfl
  | none =>
    rw [if_neg (gI_srt_none h)]
    simp only
    cases h' : gO R p oa ob with
    | some s => rw [if_pos (gO_srt_some hk h').1]
    | none =>
      rw [if_neg (gO_srt_none h')]
      simp only
      rw [srt_ins (hk.snoc (r := newR p oa ob ia ib) (gO_none h'))]
theorem tk_same {R : List Rw} (hk : KeyO R) (hi : KeyI R) (W : Ws) : tkL (srt R) W = ((tk R W).1, (tk R W).2.1, (tk R W).2.2.1, srt (tk R W).2.2.2) := by
  unfold tkL tk
  by_cases hm : 1 ≤ W.fr ∧ W.fr ≤ W.tu
  · rw [if_pos hm, if_pos hm]
    cases h : gI R W.p W.ia W.ib with
    | some r =>
      obtain ⟨h1, h2⟩ := gI_srt_some hi h
      obtain ⟨_, e1, e2, e3⟩ := gI_mem h
      rw [if_pos h1, h2]
      simp only
      split
      · rw [set_upd hk hold_keys h1 h2, e1]
      · rfl
    | none =>
      rw [if_neg (gI_srt_none h), pick_srt]
      simp only
      cases hq : pickR R W with
      | some q =>
        simp only
        unfold pickR at hq
        rw [srt_ins (hk.snoc (r := newR W.p W.ip q W.ia W.ib) (free_gO (List.find?_some hq)))]
      | none => rfl
  · rw [if_neg hm, if_neg hm]
end Go.Proofs.Ytfiblchdfacdiaa
