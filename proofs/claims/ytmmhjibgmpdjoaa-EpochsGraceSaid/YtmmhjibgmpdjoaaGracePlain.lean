/- What EpochsGrace keeps, in plain Lean; and in memory. -/
import Derived.Test.YtmmhjibgmpdjoaaRefD
namespace Go.Proofs.Ytmmhjibgmpdjoaa
namespace Md
/-- S: who still sees what was let go; W: what waits. -/
structure GI (n k : Nat) (E : Ep) (S : Nat → Nat → Bool) (W : Nat → Bool) : Prop where
  ei : EI n k E
  adv : ∀ v, v < n → wAt E.ws v = -1 ∨ (E.now : Int) ≤ wAt E.ws v + 1
  slots : ∀ p ∈ E.wt, p.1 < 9
  wait : ∀ j, j < 9 → W j = has E.wt j
  sees : ∀ p ∈ E.wt, ∀ v, v < n → S p.1 v = true → wAt E.ws v ≠ -1 ∧ wAt E.ws v ≤ p.2
theorem GI.start (n : Nat) : GI n 0 (fresh n) (fun _ _ => false) (fun _ => false) :=
  ⟨EI.start n, fun v _ => .inl (wAt_fresh n v), fun p hp => by simp [fresh] at hp, fun j _ => rfl, fun p hp => by simp [fresh] at hp⟩
theorem ann_of {E : Ep} {w : Nat} {v : Int} (h : w < E.ws.length) : annSt E w v = { E with ws := E.ws.set w v } ∧ annE E w = 0 := by
  constructor
  · unfold annSt; rw [if_pos ⟨by omega, by omega⟩]; simp
  · unfold annE; rw [if_pos ⟨by omega, by omega⟩]
theorem seen_of {E : Ep} {w : Nat} (h : w < E.ws.length) : seenI E w = wAt E.ws w := by unfold seenI; rw [if_pos ⟨by omega, by omega⟩]; simp
/-- One comes in: who announced what he had announced still sees. -/
theorem GI.enter {n k w : Nat} {E : Ep} {S : Nat → Nat → Bool} {W : Nat → Bool} (h : GI n k E S W) (hw : w < n) :
    GI n (k + 1) (annSt E w E.now) (fun a b => if b = w then S a b && ((E.now : Int) == wAt E.ws w) else S a b) W := by
  have hl : w < E.ws.length := by rw [h.ei.len]; exact hw
  have he := (ann_of (E := E) (v := E.now) hl).1
  refine ⟨h.ei.ann _ _, ?_, ?_, ?_, ?_⟩ <;> rw [he]
  · intro v hv
    show wAt (E.ws.set w E.now) v = -1 ∨ _ ≤ wAt (E.ws.set w E.now) v + 1
    rw [wAt_set _ _ _ _ hl]
    split
    · right; show (E.now : Int) ≤ _; omega
    · exact h.adv v hv
  · exact h.slots
  · exact h.wait
  · intro p hp v hv hs
    show wAt (E.ws.set w E.now) v ≠ -1 ∧ wAt (E.ws.set w E.now) v ≤ _
    rw [wAt_set _ _ _ _ hl]
    by_cases e : v = w
    · subst e
      rw [if_pos rfl] at hs ⊢
      simp only [Bool.and_eq_true, beq_iff_eq] at hs
      have := h.sees p hp v hv hs.1
      rw [hs.2]; exact this
    · rw [if_neg e] at hs ⊢
      exact h.sees p hp v hv hs
theorem GI.leave {n k w : Nat} {E : Ep} {S : Nat → Nat → Bool} {W : Nat → Bool} (h : GI n k E S W) (hw : w < n) :
    GI n (k + 1) (annSt E w (-1)) (fun a b => if b = w then false else S a b) W := by
  have hl : w < E.ws.length := by rw [h.ei.len]; exact hw
  have he := (ann_of (E := E) (v := -1) hl).1
  refine ⟨h.ei.ann _ _, ?_, ?_, ?_, ?_⟩ <;> rw [he]
  · intro v hv
    show wAt (E.ws.set w (-1)) v = -1 ∨ _ ≤ wAt (E.ws.set w (-1)) v + 1
    rw [wAt_set _ _ _ _ hl]
    split
    · exact .inl rfl
    · exact h.adv v hv
  · exact h.slots
  · exact h.wait
  · intro p hp v hv hs
    show wAt (E.ws.set w (-1)) v ≠ -1 ∧ wAt (E.ws.set w (-1)) v ≤ _
    rw [wAt_set _ _ _ _ hl]
    by_cases e : v = w
    · rw [if_pos e] at hs; cases hs
    · rw [if_neg e] at hs ⊢
      exact h.sees p hp v hv hs
theorem GI.advance {n k : Nat} {E : Ep} {S : Nat → Nat → Bool} {W : Nat → Bool} (h : GI n k E S W) : GI n (k + 1) (advSt E) S W := by
  have hei := h.ei.adv
  cases hb : advB E
  · have he : advSt E = E := by unfold advSt; rw [hb]; rfl
    rw [he] at hei ⊢
    exact ⟨hei, h.adv, h.slots, h.wait, h.sees⟩
  · have he : advSt E = { E with now := E.now + 1 } := by unfold advSt; rw [hb]; rfl
    rw [he] at hei ⊢
    refine ⟨hei, fun v hv => ?_, h.slots, h.wait, h.sees⟩
    have hno : E.ws.any (behB E.now) = false := by unfold advB at hb; simpa using hb
    show wAt E.ws v = -1 ∨ ((E.now + 1 : Nat) : Int) ≤ wAt E.ws v + 1
    by_cases e : wAt E.ws v = -1
    · exact .inl e
    · right
      by_cases e2 : wAt E.ws v = E.now
      · omega
      · exfalso
        have : E.ws.any (behB E.now) = true := any_at.2 ⟨v, by rw [h.ei.len]; exact hv, by unfold behB; simp [e, e2]⟩
        rw [hno] at this; cases this
theorem has_iff {H : List (Nat × Nat)} {j : Nat} : has H j = true ↔ ∃ p ∈ H, p.1 = j := by
  unfold has
  rw [List.any_eq_true]
  constructor
  · rintro ⟨p, hp, hb⟩; exact ⟨p, hp, by have := of_decide_eq_true (p := (p.1 : Int) = j) (by simpa using hb); omega⟩
  · rintro ⟨p, hp, rfl⟩; exact ⟨p, hp, by simp⟩
/-- What is ripe is seen by nobody. -/
theorem GI.unseen {n k : Nat} {E : Ep} {S : Nat → Nat → Bool} {W : Nat → Bool} (h : GI n k E S W) {a : Nat} (ha : a ∈ ripe E) : a < 9 ∧ W a = true ∧ ∀ v, v < n → S a v = false := by
  unfold ripe at ha
  obtain ⟨p, hp, rfl⟩ := List.mem_map.1 ha
  obtain ⟨hp, ho⟩ := List.mem_filter.1 hp
  refine ⟨h.slots p hp, ?_, fun v hv => ?_⟩
  · rw [h.wait _ (h.slots p hp)]; exact has_iff.2 ⟨p, hp, rfl⟩
  · cases hb : S p.1 v
    · rfl
    · exfalso
      have h1 := h.sees p hp v hv hb
      have h2 := h.adv v hv
      unfold overB at ho
      have h3 := of_decide_eq_true ho
      omega
theorem GI.rip {n k : Nat} {E : Ep} {S : Nat → Nat → Bool} {W W' : Nat → Bool} (h : GI n k E S W) (hW : ∀ j, j < 9 → W' j = (W j && !decide (j ∈ ripe E))) (hei : EI n (k + 1) (ripeSt E)) : GI n (k + 1) (ripeSt E) S W' := by
  have hsub : ∀ p, p ∈ (ripeSt E).wt → p ∈ E.wt := fun p hp => (List.mem_filter.1 hp).1
  refine ⟨hei, h.adv, fun p hp => h.slots p (hsub p hp), fun j hj => ?_, fun p hp => h.sees p (hsub p hp)⟩
  rw [hW j hj, h.wait j hj, Bool.eq_iff_iff]
  simp only [Bool.and_eq_true, Bool.not_eq_true', decide_eq_false_iff_not]
  constructor
  · rintro ⟨h1, h2⟩
    obtain ⟨p, hp, hpj⟩ := has_iff.1 h1
    refine has_iff.2 ⟨p, List.mem_filter.2 ⟨hp, ?_⟩, hpj⟩
    cases hb : overB E.now p
    · rfl
    · exact (h2 (List.mem_map.2 ⟨p, List.mem_filter.2 ⟨hp, hb⟩, hpj⟩)).elim
  · intro h1
    obtain ⟨p, hp, hpj⟩ := has_iff.1 h1
    obtain ⟨hp, ho⟩ := List.mem_filter.1 hp
    refine ⟨has_iff.2 ⟨p, hp, hpj⟩, fun hm => ?_⟩
    obtain ⟨p', hp', he⟩ := List.mem_map.1 hm
    obtain ⟨hp', ho'⟩ := List.mem_filter.1 hp'
    have hpp : p = p' := by
      obtain ⟨i, hi, rfl⟩ := List.getElem_of_mem hp
      obtain ⟨i', hi', rfl⟩ := List.getElem_of_mem hp'
      have hnd := List.pairwise_iff_getElem.1 h.ei.nodup
      by_cases e : i = i'
      · subst e; rfl
      · exfalso
        rcases Nat.lt_or_gt_of_ne e with hl | hl
        · exact hnd i i' (by simpa using hi) (by simpa using hi') hl (by simp [hpj, he])
        · exact hnd i' i (by simpa using hi') (by simpa using hi) hl (by simp [hpj, he])
    subst hpp
    rw [ho'] at ho; simp at ho
/-- One is let go: whoever is in sees it. -/
theorem GI.dfr {n k s : Nat} {E : Ep} {S : Nat → Nat → Bool} {W : Nat → Bool} (h : GI n k E S W) (hok : E.Ok) (hs : s < 9) (hw : W s = false) :
    defE E s = 0 ∧ GI n (k + 1) (defSt E s) (fun a b => if a = s ∧ b < n then wAt E.ws b != -1 else S a b) (fun j => if j = s then true else W j) := by
  have hh : has E.wt s = false := by rw [← h.wait s hs]; exact hw
  have hE : defE E s = 0 := by unfold defE; rw [if_neg (by omega), hh]; rfl
  have he : defSt E s = { E with wt := E.wt ++ [(s, E.now)] } := by unfold defSt; rw [hE]; simp
  have hei := h.ei.dfr (s : Int)
  refine ⟨hE, ?_⟩
  rw [he] at hei ⊢
  have hne : ∀ p ∈ E.wt, p.1 ≠ s := fun p hp e => by
    have := has_iff.2 ⟨p, hp, e⟩
    rw [hh] at this; cases this
  refine ⟨hei, h.adv, fun p hp => ?_, fun j hj => ?_, fun p hp v hv hs' => ?_⟩
  · rcases List.mem_append.1 hp with hp | hp
    · exact h.slots p hp
    · simp at hp; subst hp; exact hs
  · show (if j = s then true else W j) = has (E.wt ++ [(s, E.now)]) j
    unfold has
    rw [List.any_append]
    by_cases e : j = s
    · subst e; simp
    · rw [if_neg e, h.wait j hj]
      have : ((s : Int) == (j : Int)) = false := beq_eq_false_iff_ne.2 (by omega)
      simp [has, this]
  · rcases List.mem_append.1 hp with hp | hp
    · rw [if_neg (fun hc => hne p hp hc.1)] at hs'
      exact h.sees p hp v hv hs'
    · simp at hp
      subst hp
      rw [if_pos ⟨rfl, hv⟩] at hs'
      exact ⟨by simpa using hs', (hok.ws v).2⟩
theorem GI.same {n k s : Nat} {E : Ep} {S : Nat → Nat → Bool} {W : Nat → Bool} (h : GI n k E S W) (hs : s < 9) (hw : W s = true) : defE E s = 7 ∧ defSt E s = E ∧ GI n (k + 1) E S W := by
  have hh : has E.wt s = true := by rw [← h.wait s hs]; exact hw
  have hE : defE E s = 7 := by unfold defE; rw [if_neg (by omega), hh]; rfl
  exact ⟨hE, by unfold defSt; rw [hE]; rfl, ⟨h.ei.mono, h.adv, h.slots, h.wait, h.sees⟩⟩
theorem GI.congr {n k : Nat} {E : Ep} {S S' : Nat → Nat → Bool} {W W' : Nat → Bool} (h : GI n k E S W) (hS : ∀ a b, a < 9 → b < 8 → S a b = S' a b) (hW : ∀ j, j < 9 → W j = W' j) (hn : n ≤ 8) : GI n k E S' W' :=
  ⟨h.ei, h.adv, h.slots, fun j hj => by rw [← hW j hj]; exact h.wait j hj, fun p hp v hv hs => h.sees p hp v hv (by rw [hS _ _ (h.slots p hp) (by omega)]; exact hs)⟩
end Md
open Go Go.RowKit Go.Deep Md
theorem Md.EI.rip {n k : Nat} {E : Ep} (h : EI n k E) : EI n (k + 1) (ripeSt E) := by
  refine ⟨h.len, by have := h.now; show E.now ≤ _; omega, ?_, ?_⟩
  · have := h.many
    exact Nat.le_trans (List.length_filter_le _ _) (by omega)
  · exact (List.Sublist.map Prod.fst (List.filter_sublist)).nodup h.nodup
theorem within_9 (w : World) (n : Int) : Calls Try.prog 10 #[.int .i64 n, .int .i64 9] w fun e w' => e = .returned (.int .i64 (withinN n 9 : Nat)) ∧ w = w' := within_any w n 9 (by omega) (by omega)
theorem zero47 : ∀ w, (zeroValue 47).run Try.prog w = .ok (.agg (Array.replicate 72 (.bool false))) w := fun _ => by kernel_rfl
theorem zero48 : ∀ w, (zeroValue 48).run Try.prog w = .ok (.agg (Array.replicate 9 (.bool false))) w := fun _ => by kernel_rfl

def seesF (S : Nat → Nat → Bool) (j : Nat) : Value := .bool (S (j / 8) (j % 8))
def waitsF (W : Nat → Bool) (j : Nat) : Value := .bool (W j)
/-- The epochs, and the law's two tables. -/
structure GP (w0 w : World) (x g : Nat) (vt : Value) (E : Ep) (sb wb : Nat) (S : Nat → Nat → Bool) (W : Nat → Bool) : Prop where
  wd : Wd w0 w x g vt E
  sr : w.rowIs sb 47 72 (seesF S)
  wr : w.rowIs wb 48 9 (waitsF W)
  hs : x < sb
  hw : sb < wb
def GPO (w0 : World) (x g : Nat) (E : Ep) (sb wb : Nat) (S : Nat → Nat → Bool) (W : Nat → Bool) (v : Value) (e : Ending) (w' : World) : Prop :=
  e = .returned v ∧ ∃ vt, GP w0 w' x g vt E sb wb S W
namespace GP
variable {w0 w w' : World} {x g : Nat} {vt : Value} {E E' : Ep} {sb wb : Nat} {S : Nat → Nat → Bool} {W : Nat → Bool}
theorem ne1 (h : GP w0 w x g vt E sb wb S W) : ¬ EpS x g vt sb := by
  have := h.hs; have := h.wd.at_.gx
  rintro (e | e | e)
  · omega
  · omega
  · exact row_apart h.sr h.wd.at_.wt (by decide) e
theorem ne2 (h : GP w0 w x g vt E sb wb S W) : ¬ EpS x g vt wb := by
  have := h.hs; have := h.hw; have := h.wd.at_.gx
  rintro (e | e | e)
  · omega
  · omega
  · exact row_apart h.wr h.wd.at_.wt (by decide) e
theorem of {v : Value} {e : Ending} (h : GP w0 w x g vt E sb wb S W) (ht : WdO w0 w x g vt E' v e w') : GPO w0 x g E' sb wb S W v e w' := by
  obtain ⟨he, vt', h1, hu⟩ := ht
  exact ⟨he, vt', h1, hu.row h.sr h.ne1, hu.row h.wr h.ne2, h.hs, h.hw⟩
theorem upto (h : GP w0 w x g vt E sb wb S W) (hu : Upto NoS w w') : GP w0 w' x g vt E sb wb S W := ⟨h.wd.upto hu, hu.row h.sr id, hu.row h.wr id, h.hs, h.hw⟩
theorem sc (h : GP w0 w x g vt E sb wb S W) {a b : Nat} (ha : a < 9) (hb : b < 8) : w.cell? ⟨sb, a * 8 + b, none⟩ = some (.bool (S a b)) := by
  rw [h.sr.cell (by omega)]; unfold seesF; rw [show (a * 8 + b) / 8 = a from by omega, show (a * 8 + b) % 8 = b from by omega]
theorem wc (h : GP w0 w x g vt E sb wb S W) {a : Nat} (ha : a < 9) : w.cell? ⟨wb, a, none⟩ = some (.bool (W a)) := h.wr.cell ha
theorem setS (h : GP w0 w x g vt E sb wb S W) {a b : Nat} (_ha : a < 9) (hb : b < 8) (q : Bool) :
    GP w0 (w.setCell ⟨sb, a * 8 + b, none⟩ (.bool q)) x g vt E sb wb (fun c d => if c = a ∧ d = b then q else S c d) W := by
  have hu : Upto (· = sb) w (w.setCell ⟨sb, a * 8 + b, none⟩ (.bool q)) := (Upto.refl (fun k => k = sb) w).setB rfl _
  have hlt := h.wd.hx
  have hss := h.hs
  have hww := h.hw
  refine ⟨h.wd.gen hu (fun k hk hs => by have e : k = sb := hk; subst e; exact h.ne1 hs) (fun k hk => by have e : k = sb := hk; omega), (h.sr.set (a * 8 + b) (.bool q)).congr (fun j hj => ?_), hu.row h.wr (by omega), h.hs, h.hw⟩
  unfold seesF
  by_cases e : j = a * 8 + b
  · rw [if_pos e]; show _ = Value.bool (if j / 8 = a ∧ j % 8 = b then q else S (j / 8) (j % 8)); rw [if_pos ⟨by omega, by omega⟩]
  · rw [if_neg e]; show _ = Value.bool (if j / 8 = a ∧ j % 8 = b then q else S (j / 8) (j % 8)); rw [if_neg (fun hc => e (by omega))]
theorem setW (h : GP w0 w x g vt E sb wb S W) (a : Nat) (q : Bool) :
    GP w0 (w.setCell ⟨wb, a, none⟩ (.bool q)) x g vt E sb wb S (fun c => if c = a then q else W c) := by
  have hu : Upto (· = wb) w (w.setCell ⟨wb, a, none⟩ (.bool q)) := (Upto.refl (fun k => k = wb) w).setB rfl _
  have hlt := h.wd.hx
  have hss := h.hs
  have hww := h.hw
  refine ⟨h.wd.gen hu (fun k hk hs => by have e : k = wb := hk; subst e; exact h.ne2 hs) (fun k hk => by have e : k = wb := hk; omega), hu.row h.sr (by omega), (h.wr.set a (.bool q)).congr (fun j hj => ?_), h.hs, h.hw⟩
  unfold waitsF
  by_cases e : j = a
  · rw [if_pos e]; show _ = Value.bool (if j = a then q else W j); rw [if_pos e]
  · rw [if_neg e]; show _ = Value.bool (if j = a then q else W j); rw [if_neg e]
theorem congr {S' : Nat → Nat → Bool} {W' : Nat → Bool} (h : GP w0 w x g vt E sb wb S W) (hS : ∀ a b, a < 9 → b < 8 → S a b = S' a b) (hW : ∀ j, j < 9 → W j = W' j) : GP w0 w x g vt E sb wb S' W' :=
  ⟨h.wd, h.sr.congr (fun j hj => by unfold seesF; rw [hS _ _ (by omega) (by omega)]), h.wr.congr (fun j hj => by unfold waitsF; rw [hW j hj]), h.hs, h.hw⟩
end GP
end Go.Proofs.Ytmmhjibgmpdjoaa
