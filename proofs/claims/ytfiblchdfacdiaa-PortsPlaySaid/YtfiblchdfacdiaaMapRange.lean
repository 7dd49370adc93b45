/- A range over a map: which entries have come. -/
import Derived.Test.YtfiblchdfacdiaaMaps

import Derived.Maps.Range
namespace Go.Proofs.Ytfiblchdfacdiaa
open Go Go.RowKit Go.Deep Go.Maps Go.MapKept Go.ChangeMaps

abbrev ekv (x : MapEntry) : Value × Value := (x.key, x.val)
/-- A range over the map at b, its iterator at r: T has come. -/
def RgAt (P : Program) (k : TypeId) (w : World) (b r : Nat) (L T : List (Value × Value)) : Prop :=
  ∃ es clock since seen c0, w.heap[b]? = some (.map es clock) ∧ es.toList.map ekv = L ∧ Stamped es clock ∧ (∀ x ∈ es.toList, ∃ l, keyOf P k x.key = some l) ∧
    w.heap[r]? = some (.mapIter (some b) since seen c0) ∧ (∀ x ∈ es.toList, x.born < since) ∧ since ≤ c0 ∧ since ≤ clock ∧ T.Perm ((es.toList.filter fun x => seen.contains x.born).map ekv)

theorem filter_or_perm {α : Type} (p q : α → Bool) : ∀ (L : List α), (∀ x ∈ L, ¬ (p x = true ∧ q x = true)) → (L.filter fun x => p x || q x).Perm (L.filter p ++ L.filter q)
  | [], _ => by simp
  | x :: l, h => by
    have ih := filter_or_perm p q l fun y hy => h y (List.mem_cons_of_mem _ hy)
    have hx := h x List.mem_cons_self
    cases hp : p x <;> cases hq : q x
    · simpa [hp, hq] using ih
    · simp only [List.filter_cons, hp, hq, Bool.or_true, if_true, Bool.false_eq_true, if_false]
      exact (ih.cons x).trans List.perm_middle.symm
    · simpa [hp, hq] using ih
    · exact (hx ⟨hp, hq⟩).elim
theorem filter_len {α : Type} (p : α → Bool) : ∀ l : List α, l.length = (l.filter p).length + (l.filter fun x => !p x).length
  | [] => rfl
  | x :: l => by
    have := filter_len p l
    cases hp : p x <;> simp [hp] <;> omega
theorem filter_born {es : List MapEntry} (hn : (es.map (·.born)).Nodup) {e : MapEntry} (he : e ∈ es) : (es.filter fun x => x.born == e.born) = [e] := by
  obtain ⟨A, B, rfl⟩ := List.append_of_mem he
  rw [List.map_append, List.map_cons, List.nodup_append] at hn
  obtain ⟨_, h2, h3⟩ := hn
  rw [List.nodup_cons] at h2
  have e1 : A.filter (fun x => x.born == e.born) = [] := List.filter_eq_nil_iff.2 fun u hu => by
    have := h3 u.born (List.mem_map_of_mem hu) e.born List.mem_cons_self
    simpa using this
  have e2 : B.filter (fun x => x.born == e.born) = [] := List.filter_eq_nil_iff.2 fun u hu => by
    have : ¬ u.born = e.born := fun e' => h2.1 (by rw [← e']; exact List.mem_map_of_mem (f := (·.born)) hu)
    simpa using this
  rw [List.filter_append, e1, List.filter_cons]
  simp [e2]

namespace RgAt
variable {P : Program} {k : TypeId} {w w' : World} {b r : Nat} {L T : List (Value × Value)}
theorem mp (h : RgAt P k w b r L T) : MapAt P k w b L := by
  obtain ⟨es, clock, since, seen, c0, hb, hL, hs, hk, _⟩ := h
  exact ⟨es, clock, hb, hL, hs, hk⟩
theorem lt (h : RgAt P k w b r L T) : r < w.heap.size := by
  obtain ⟨es, clock, since, seen, c0, _, _, _, _, hr, _⟩ := h
  exact (Array.getElem?_eq_some_iff.1 hr).1
theorem ne (h : RgAt P k w b r L T) : r ≠ b := by
  obtain ⟨es, clock, since, seen, c0, hb, _, _, _, hr, _⟩ := h
  intro e
  rw [e, hb] at hr
  cases hr
theorem upto {S : Nat → Prop} (h : RgAt P k w b r L T) (hu : Upto S w w') (hb' : ¬ S b) (hr' : ¬ S r) : RgAt P k w' b r L T := by
  have h1 := h.mp.lt
  have h2 := h.lt
  obtain ⟨es, clock, since, seen, c0, hb, hL, hs, hk, hr, rest⟩ := h
  exact ⟨es, clock, since, seen, c0, (hu.block b h1 hb').trans hb, hL, hs, hk, (hu.block r h2 hr').trans hr, rest⟩
theorem left (h : RgAt P k w b r L T) : w.rangeLeft b r = L.length - T.length := by
  obtain ⟨es, clock, since, seen, c0, hb, hL, hs, hk, hr, _, _, _, hT⟩ := h
  simp only [World.rangeLeft, hb, hr]
  have e1 : (leftOf es seen).size = (es.toList.filter fun x => !seen.contains x.born).length := by
    unfold leftOf
    rw [← Array.length_toList, Array.toList_filter]
  have e2 := hT.length_eq
  rw [List.length_map] at e2
  have e3 : L.length = es.toList.length := by rw [← hL, List.length_map]
  have e4 := filter_len (fun x : MapEntry => seen.contains x.born) es.toList
  omega
theorem next (h : RgAt P k w b r L T) :
    (T.Perm L ∧ ∀ ty, (Instr.next (.pointer (some ⟨r, 0, none⟩)) false ty).run P w = .ok (.tuple #[.bool false]) w) ∨
    ∃ key v w', (key, v) ∈ L ∧ (∀ ty, (Instr.next (.pointer (some ⟨r, 0, none⟩)) false ty).run P w = .ok (.tuple #[.bool true, key, v]) w') ∧
      (Instr.entry (.pointer (some ⟨r, 0, none⟩))).run P w' = .ok (.tuple #[key, v]) w' ∧ RgAt P k w' b r L (T ++ [(key, v)]) ∧ Upto (fun i => i = r) w w' ∧ w'.heap.size = w.heap.size ∧ T.length < L.length := by
  have hne := h.ne
  have hleft := h.left
  obtain ⟨es, clock, since, seen, c0, hb, hL, hs, hk, hr, hold, hsc, hsk, hT⟩ := h
  rcases run_next_at (P := P) w 0 r b since c0 seen es clock hr hb hold hsc with ⟨h0, hrun⟩ | ⟨e, he, w1, hal, hrun⟩
  · refine .inl ⟨?_, fun ty => hrun⟩
    have : (es.toList.filter fun x => seen.contains x.born) = es.toList := List.filter_eq_self.2 fun x hx => all_seen es seen h0 x hx
    rw [this, hL] at hT
    exact hT
  · obtain ⟨hem, hes⟩ := mem_left he
    have hr1 : w1.heap[r]? = some (.mapIter (some b) since seen c0) := by rcases hal with rfl | rfl <;> exact hr
    have hb1 : w1.heap[b]? = some (.map es clock) := by rcases hal with rfl | rfl <;> exact hb
    have hset := heap_set (o' := .mapIter (some b) since (seen.push e.born) clock) hr1
    have hb' : (setBlock w1 r (.mapIter (some b) since (seen.push e.born) clock)).heap[b]? = some (.map es clock) := (hset.2 b (fun e1 => hne e1.symm)).trans hb1
    have hn := ((stamped_iff es clock).1 hs).2.1
    have hnew : RgAt P k (setBlock w1 r (.mapIter (some b) since (seen.push e.born) clock)) b r L (T ++ [ekv e]) := by
      refine ⟨es, clock, since, seen.push e.born, clock, hb', hL, hs, hk, hset.1, hold, hsk, hsk, ?_⟩
      have e1 : (es.toList.filter fun x => (seen.push e.born).contains x.born) = es.toList.filter fun x => seen.contains x.born || (x.born == e.born) := by
        refine List.filter_congr fun x _ => ?_
        rw [contains_push]
      rw [e1]
      have hp := filter_or_perm (fun x : MapEntry => seen.contains x.born) (fun x => x.born == e.born) es.toList (fun x hx hxx => by
        have : x.born = e.born := by simpa using hxx.2
        rw [this, hes] at hxx
        simp at hxx)
      rw [filter_born hn hem] at hp
      refine List.Perm.trans ?_ (hp.map ekv).symm
      rw [List.map_append]
      exact hT.append_right _
    refine .inr ⟨e.key, e.val, _, by rw [← hL]; exact List.mem_map.2 ⟨e, hem, rfl⟩, fun ty => hrun, run_entry_at _ r b since seen es clock e hset.1 hb' hem hn, hnew, ?_, ?_, ?_⟩
    · rcases hal with rfl | rfl <;> exact ⟨rfl, rfl, rfl, by simp [setBlock], fun i _ hi => hset.2 i hi⟩
    · rcases hal with rfl | rfl <;> simp [setBlock]
    · obtain ⟨es', clock', since', seen', c0', hb2, hL2, _, _, _, _, _, _, hT2⟩ := hnew
      have := hT2.length_eq
      rw [List.length_map, List.length_append] at this
      have h3 := List.length_filter_le (fun x : MapEntry => seen'.contains x.born) es'.toList
      have h4 : L.length = es'.toList.length := by rw [← hL2, List.length_map]
      simp at this h3 h4
      omega
end RgAt
theorem MapAt.range {P : Program} {k : TypeId} {w : World} {b : Nat} {L : List (Value × Value)} {t e : TypeId} (h : MapAt P k w b L) (ht : P.underlying t = some (.map k e)) :
    ∃ o, (Instr.range t (.map (some b))).run P w = .ok (.pointer (some ⟨w.heap.size, 0, none⟩)) (w.alloc o) ∧ RgAt P k (w.alloc o) b w.heap.size L [] := by
  have hlt := h.lt
  obtain ⟨es, clock, hb, hL, hs, hk⟩ := h
  refine ⟨_, run_range_map w t k e b es clock ht hb, es, clock, clock, #[], clock, ((MapKept.heap_alloc w _).2 b hlt).trans hb, hL, hs, hk, (MapKept.heap_alloc w _).1, ((stamped_iff es clock).1 hs).1, Nat.le_refl _, Nat.le_refl _, ?_⟩
  simp
end Go.Proofs.Ytfiblchdfacdiaa
