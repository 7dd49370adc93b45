/- PortsOwn's plain law: what is held once more, and dropped, changes nothing; rows have somebody, and endpoints of their own. -/
import Derived.Test.YtfiblchdfacdiaaDoes
namespace Go.Proofs.Ytfiblchdfacdiaa
open Go Go.RowKit Go.Deep Go.Maps

/-- Rows of which no two have one inner endpoint. -/
def KeyI (L : List Rw) : Prop := L.Pairwise fun a b => ¬ (a.p = b.p ∧ a.ia = b.ia ∧ a.ib = b.ib)
theorem PsAt.keyI {w : World} {x rb ob : Nat} {T : List (Rw × Nat)} (h : PsAt w x rb ob T) : KeyI (T.map (·.1)) := by
  have h1 := h.of_.nodup
  unfold ofL at h1
  rw [List.pairwise_map] at h1
  unfold KeyI
  rw [List.pairwise_map]
  exact h1.imp fun h e => h (by obtain ⟨e1, e2, e3⟩ := e; simp [e1, e2, e3])
theorem PsD.keyO {w wr : World} {x : Nat} {O K : Nat → Prop} {R : List Rw} (h : PsD w wr x O R K) : KeyO R := by
  obtain ⟨rb, ob, T, h1, rfl, _⟩ := h.at_
  exact h1.keyO
theorem PsD.keyI {w wr : World} {x : Nat} {O K : Nat → Prop} {R : List Rw} (h : PsD w wr x O R K) : KeyI R := by
  obtain ⟨rb, ob, T, h1, rfl, _⟩ := h.at_
  exact h1.keyI
theorem PsD.okR {w wr : World} {x : Nat} {O K : Nat → Prop} {R : List Rw} (h : PsD w wr x O R K) : ∀ r ∈ R, r.Ok := by
  obtain ⟨rb, ob, T, h1, rfl, _⟩ := h.at_
  intro r hr
  obtain ⟨s, hs, rfl⟩ := List.mem_map.1 hr
  exact h1.ok s hs

theorem mem_updR {R : List Rw} {p a b : Nat} {f : Rw → Rw} {s : Rw} (h : s ∈ updR R p a b f) : ∃ r ∈ R, s = r ∨ (s = f r ∧ r.p = p ∧ r.oa = a ∧ r.ob = b) := by
  obtain ⟨r, hr, rfl⟩ := List.mem_map.1 h
  refine ⟨r, hr, ?_⟩
  split
  · next e => exact .inr ⟨rfl, e⟩
  · exact .inl rfl
theorem updR_len (R : List Rw) (p a b : Nat) (f : Rw → Rw) : (updR R p a b f).length = R.length := List.length_map ..
theorem delR_le (R : List Rw) (p a b : Nat) : (delR R p a b).length ≤ R.length := List.length_filter_le _ _
theorem gO_mem {R : List Rw} {p a b : Nat} {r : Rw} (h : gO R p a b = some r) : r ∈ R ∧ r.p = p ∧ r.oa = a ∧ r.ob = b := by
  have h1 := List.mem_of_find?_eq_some h
  have h2 := List.find?_some h
  simp at h2
  exact ⟨h1, h2.1.1, h2.1.2, h2.2⟩
theorem gI_mem {R : List Rw} {p a b : Nat} {r : Rw} (h : gI R p a b = some r) : r ∈ R ∧ r.p = p ∧ r.ia = a ∧ r.ib = b := by
  have h1 := List.mem_of_find?_eq_some h
  have h2 := List.find?_some h
  simp at h2
  exact ⟨h1, h2.1.1, h2.1.2, h2.2⟩
theorem gO_none {R : List Rw} {p a b : Nat} (h : gO R p a b = none) : ∀ s ∈ R, ¬ (s.p = p ∧ s.oa = a ∧ s.ob = b) := fun s hs e => by
  have := List.find?_eq_none.1 h s hs
  simp [e.1, e.2.1, e.2.2] at this
theorem KeyO.found {R : List Rw} (hk : KeyO R) {p a b : Nat} {r : Rw} (h : gO R p a b = some r) : ∀ s ∈ R, (s.p = p ∧ s.oa = a ∧ s.ob = b) → s = r := fun s hs e => by
  obtain ⟨h1, e1, e2, e3⟩ := gO_mem h
  exact hk.one hs h1 ⟨e.1.trans e1.symm, e.2.1.trans e2.symm, e.2.2.trans e3.symm⟩
theorem KeyO.gO_of {R : List Rw} (hk : KeyO R) {r : Rw} (h : r ∈ R) : gO R r.p r.oa r.ob = some r := by
  cases hf : gO R r.p r.oa r.ob with
  | none => exact absurd ⟨rfl, rfl, rfl⟩ (gO_none hf r h)
  | some s => exact congrArg some (hk.found hf r h ⟨rfl, rfl, rfl⟩).symm
theorem gO_upd {R : List Rw} {p a b : Nat} {f : Rw → Rw} (hf : KeepsKeys f) (p' a' b' : Nat) :
    gO (updR R p a b f) p' a' b' = (gO R p' a' b').map fun s => if s.p = p ∧ s.oa = a ∧ s.ob = b then f s else s := by
  unfold gO updR
  rw [List.find?_map]
  congr 2
  funext s
  simp only [Function.comp]
  split
  · rw [hf.p, hf.oa, hf.ob]
  · rfl
theorem upd_upd {R : List Rw} {p a b : Nat} {f g : Rw → Rw} (hf : KeepsKeys f) (h : ∀ r ∈ R, g (f r) = r) : updR (updR R p a b f) p a b g = R := by
  unfold updR
  rw [List.map_map]
  conv => rhs; rw [← List.map_id R]
  refine List.map_congr_left fun s hs => ?_
  simp only [Function.comp, id]
  by_cases e : s.p = p ∧ s.oa = a ∧ s.ob = b
  · rw [if_pos e, if_pos (by rw [hf.p, hf.oa, hf.ob]; exact e), h s hs]
  · rw [if_neg e, if_neg e]
theorem del_new {R : List Rw} {r : Rw} (h : ∀ s ∈ R, ¬ (s.p = r.p ∧ s.oa = r.oa ∧ s.ob = r.ob)) : delR (R ++ [r]) r.p r.oa r.ob = R := by
  unfold delR
  rw [List.filter_append, List.filter_eq_self.2 (fun s hs => by rw [Bool.not_eq_true', decide_eq_false_iff_not]; exact h s hs)]
  simp

/-- Rows after k acts. -/
structure Good (k : Nat) (R : List Rw) : Prop where
  len : R.length ≤ k
  each : ∀ r ∈ R, 0 < r.live + r.held ∧ r.live ≤ k ∧ r.held ≤ k
namespace Good
variable {k : Nat} {R : List Rw}
theorem nil : Good 0 [] := ⟨by simp, fun r hr => by simp at hr⟩
theorem up (h : Good k R) : Good (k + 1) R := ⟨by have := h.len; omega, fun r hr => by have := h.each r hr; omega⟩
theorem snoc (h : Good k R) (p a b c d : Nat) : Good (k + 1) (R ++ [newR p a b c d]) := ⟨by have := h.len; simp; omega, fun r hr => by
  rcases List.mem_append.1 hr with hr | hr
  · have := h.each r hr; omega
  · simp at hr; subst hr; simp [newR]⟩
theorem upd (h : Good k R) {p a b : Nat} {f : Rw → Rw} (hf : ∀ r ∈ R, r.p = p ∧ r.oa = a ∧ r.ob = b → 0 < (f r).live + (f r).held ∧ (f r).live ≤ k + 1 ∧ (f r).held ≤ k + 1) : Good (k + 1) (updR R p a b f) :=
  ⟨by rw [updR_len]; have := h.len; omega, fun s hs => by
    obtain ⟨r, hr, e | ⟨e, e'⟩⟩ := mem_updR hs
    · subst e; have := h.each s hr; omega
    · subst e; exact hf r hr e'⟩
theorem del (h : Good k R) (p a b : Nat) : Good (k + 1) (delR R p a b) := ⟨by have := delR_le R p a b; have := h.len; omega, fun r hr => by have := h.each r (List.mem_filter.1 hr).1; omega⟩
theorem tk (h : Good k R) (W : Ws) : Good (k + 1) (Ytfiblchdfacdiaa.tk R W).2.2.2 := by
  unfold Ytfiblchdfacdiaa.tk
  split
  · split
    · split
      · exact h.upd fun r hr _ => by have := h.each r hr; simp only [hold]; omega
      · exact h.up
    · split
      · exact h.snoc _ _ _ _ _
      · exact h.up
  · exact h.up
theorem fx (h : Good k R) (p ia ib oa ob : Nat) : Good (k + 1) (Ytfiblchdfacdiaa.fx R p ia ib oa ob).2 := by
  unfold Ytfiblchdfacdiaa.fx
  split
  · split
    · exact h.upd fun r hr _ => by have := h.each r hr; simp only [hold]; omega
    · exact h.up
  · split
    · exact h.up
    · exact h.snoc _ _ _ _ _
theorem cf (h : Good k R) (p a b : Nat) : Good (k + 1) (Ytfiblchdfacdiaa.cf R p a b).2 := by
  unfold Ytfiblchdfacdiaa.cf
  split
  · exact h.up
  · split
    · exact h.up
    · exact h.upd fun r hr _ => by have := h.each r hr; simp only [conf]; omega
theorem dr (h : Good k R) (hk : KeyO R) (p a b : Nat) : Good (k + 1) (Ytfiblchdfacdiaa.dr R p a b).2 := by
  unfold Ytfiblchdfacdiaa.dr
  split
  · exact h.up
  · next r hf =>
    split
    · exact h.up
    · split
      · exact h.del p a b
      · exact h.upd fun s hs e => by
          have := hk.found hf s hs e
          subst this
          have := h.each s hs; simp only [drp]; omega
theorem rl (h : Good k R) (hk : KeyO R) (p a b : Nat) : Good (k + 1) (Ytfiblchdfacdiaa.rl R p a b).2 := by
  unfold Ytfiblchdfacdiaa.rl
  split
  · exact h.up
  · next r hf =>
    split
    · exact h.up
    · split
      · exact h.del p a b
      · exact h.upd fun s hs e => by
          have := hk.found hf s hs e
          subst this
          have := h.each s hs; simp only [rels]; omega
theorem lt (h : Good k R) (hk : k ≤ 1000) : R.length < 1000000 ∧ (∀ r ∈ R, r.held < 1000000) ∧ ∀ r ∈ R, r.live < 1000000 := ⟨by have := h.len; omega, fun r hr => by have := h.each r hr; omega, fun r hr => by have := h.each r hr; omega⟩
end Good

theorem free_gO {R : List Rw} {p a q : Nat} (h : freeB R p a q = true) : ∀ s ∈ R, ¬ (s.p = p ∧ s.oa = a ∧ s.ob = q) := fun s hs e => by
  unfold freeB at h
  rw [Bool.not_eq_true', List.any_eq_false] at h
  have := h s hs
  simp [e.1, e.2.1, e.2.2] at this
/-- What is held once more, and dropped. -/
theorem take_drop {R : List Rw} (hk : KeyO R) (hg : ∀ r ∈ R, 0 < r.live + r.held) (W : Ws) :
    ((tk R W).2.2.1 ≠ 0 ∧ (tk R W).2.2.2 = R) ∨ ((tk R W).2.2.1 = 0 ∧ (tk R W).1 = W.ip ∧ W.fr ≤ (tk R W).2.1 ∧ (tk R W).2.1 ≤ W.tu ∧ dr (tk R W).2.2.2 W.p (tk R W).1 (tk R W).2.1 = (0, R)) := by
  unfold tk
  by_cases hm : 1 ≤ W.fr ∧ W.fr ≤ W.tu
  · rw [if_pos hm]
    cases hI : gI R W.p W.ia W.ib with
    | some r =>
      simp only
      by_cases hf : r.oa = W.ip ∧ W.fr ≤ r.ob ∧ r.ob ≤ W.tu
      · rw [if_pos hf]
        obtain ⟨hr, e1, _, _⟩ := gI_mem hI
        refine .inr ⟨rfl, hf.1, hf.2.1, hf.2.2, ?_⟩
        have h1 := hk.gO_of hr
        rw [e1] at h1
        have h2 : gO (updR R W.p r.oa r.ob hold) W.p r.oa r.ob = some (hold r) := by rw [gO_upd hold_keys, h1, Option.map_some, if_pos ⟨e1, rfl, rfl⟩]
        simp only [dr, h2]
        rw [if_neg (by simp [hold]), if_neg (by have := hg r hr; simp only [hold]; omega), upd_upd hold_keys (fun s _ => rfl)]
      · rw [if_neg hf]
        exact .inl ⟨(by decide : (7 : Int) ≠ 0), rfl⟩
    | none =>
      simp only
      cases hq : pickR R W with
      | some q =>
        simp only
        unfold pickR at hq
        have hin := tried_in W hm.2 q (List.mem_of_find?_eq_some hq)
        have hfr := free_gO (List.find?_some hq)
        refine .inr ⟨trivial, trivial, hin.1, hin.2, ?_⟩
        have h1 : gO (R ++ [newR W.p W.ip q W.ia W.ib]) W.p W.ip q = some (newR W.p W.ip q W.ia W.ib) := by
          unfold gO
          rw [List.find?_append, List.find?_eq_none.2 (fun s hs => by simpa using fun e1 e2 e3 => hfr s hs ⟨e1, e2, e3⟩)]
          simp [newR]
        simp only [dr, h1]
        rw [if_neg (by simp [newR]), if_pos (by simp [newR])]
        exact congrArg (Prod.mk (0 : Int)) (del_new (r := newR W.p W.ip q W.ia W.ib) hfr)
      | none => exact .inl ⟨(by decide : (8 : Int) ≠ 0), rfl⟩
  · rw [if_neg hm]
    exact .inl ⟨(by decide : (2 : Int) ≠ 0), rfl⟩
/-- No two rows in order have one endpoint. -/
theorem srt_pair {R : List Rw} (hO : KeyO R) (hI : KeyI R) {j k : Nat} (hjk : j < k) (hk : k < R.length) :
    ¬ ((rwAt (srt R) j).p = (rwAt (srt R) k).p ∧ (((rwAt (srt R) j).ia = (rwAt (srt R) k).ia ∧ (rwAt (srt R) j).ib = (rwAt (srt R) k).ib) ∨ ((rwAt (srt R) j).oa = (rwAt (srt R) k).oa ∧ (rwAt (srt R) j).ob = (rwAt (srt R) k).ob))) := by
  have hl := srt_len R
  have h1 : KeyO (srt R) := hO.perm (srt_perm R).symm (fun {a b} h e => h ⟨e.1.symm, e.2.1.symm, e.2.2.symm⟩)
  have h2 : KeyI (srt R) := List.Pairwise.perm hI (srt_perm R).symm (fun {a b} h e => h ⟨e.1.symm, e.2.1.symm, e.2.2.symm⟩)
  rw [rwAt_get _ (by omega), rwAt_get _ (by omega)]
  have g1 := List.pairwise_iff_getElem.1 h1 j k (by omega) (by omega) hjk
  have g2 := List.pairwise_iff_getElem.1 h2 j k (by omega) (by omega) hjk
  rintro ⟨e1, e | e⟩
  · exact g2 ⟨e1, e.1, e.2⟩
  · exact g1 ⟨e1, e.1, e.2⟩
theorem srt_mem {R : List Rw} {k : Nat} (hk : k < R.length) : rwAt (srt R) k ∈ R := (srt_perm R).mem_iff.1 (rwAt_mem _ (by rw [srt_len]; exact hk))
end Go.Proofs.Ytfiblchdfacdiaa
