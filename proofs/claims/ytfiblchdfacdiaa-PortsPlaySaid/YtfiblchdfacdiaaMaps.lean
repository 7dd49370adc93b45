/- Maps as lists of their entries, in the order in which they were laid. -/
import Derived.Test.YtfiblchdfacdiaaBase
import Derived.Maps.Own
import Derived.Maps.OwnSet
import Derived.DeepKeys4
namespace Go.Proofs.Ytfiblchdfacdiaa
open Go Go.RowKit Go.Deep Go.Maps Go.MapKept
open Go.ChangeMaps

/-- Block b is a map with these entries. -/
def MapAt (P : Program) (k : TypeId) (w : World) (b : Nat) (L : List (Value × Value)) : Prop :=
  ∃ es clock, w.heap[b]? = some (.map es clock) ∧ es.toList.map (fun x => (x.key, x.val)) = L ∧ Stamped es clock ∧ (∀ x ∈ es.toList, ∃ l, keyOf P k x.key = some l)

namespace MapAt
variable {P : Program} {k : TypeId} {w w' : World} {b : Nat} {L : List (Value × Value)}
theorem lt (h : MapAt P k w b L) : b < w.heap.size := by
  obtain ⟨es, clock, hb, _⟩ := h
  exact (Array.getElem?_eq_some_iff.1 hb).1
theorem of_block (h : MapAt P k w b L) (e : w'.heap[b]? = w.heap[b]?) : MapAt P k w' b L := by
  obtain ⟨es, clock, hb, r⟩ := h
  exact ⟨es, clock, e.trans hb, r⟩
theorem upto {S : Nat → Prop} (h : MapAt P k w b L) (hu : Upto S w w') (hs : ¬ S b) : MapAt P k w' b L := h.of_block (hu.block b h.lt hs)
theorem alloc (h : MapAt P k w b L) (o : Obj) : MapAt P k (w.alloc o) b L := h.of_block (Below.heap_alloc _ _ _ h.lt)
theorem drew (h : MapAt P k w b L) : MapAt P k w.drew b L := h
theorem drewN (h : MapAt P k w b L) (n : Nat) : MapAt P k (w.drewN n) b L := h
theorem made (P : Program) (k : TypeId) (w : World) : MapAt P k (w.alloc (.map #[] 0)) w.heap.size [] :=
  ⟨#[], 0, (MapKept.heap_alloc w _).1, rfl, stamped_empty 0, by simp⟩
theorem ne_cells {t : TypeId} {A : Array Value} {c : Nat} (h : MapAt P k w b L) (hc : w.heap[c]? = some (.cells A t)) : b ≠ c := by
  rintro rfl
  obtain ⟨es, clock, hb, _⟩ := h
  rw [hb] at hc
  cases hc
theorem ne_row {t n : Nat} {f : Nat → Value} {c : Nat} (h : MapAt P k w b L) (hr : w.rowIs c t n f) : b ≠ c := by
  obtain ⟨A, hA, _⟩ := hr
  exact h.ne_cells hA
theorem nodup (h : MapAt P k w b L) : L.Pairwise (fun p q => p.1 ≠ q.1) := by
  obtain ⟨es, clock, _, rfl, hs, _⟩ := h
  rw [List.pairwise_map]
  exact ((stamped_iff es clock).1 hs).2.2
theorem look_none {t e : TypeId} (h : MapAt P k w b L) (c : Bool) (K : Keyed P k) (ht : P.underlying t = some (.map k e)) {z : Value} (hz : (zeroValue e).run P w = .ok z w) {key : Value} {kl : Lit} (hkey : keyOf P k key = some kl)
    (hno : ∀ p ∈ L, p.1 ≠ key) : (Instr.lookup t (.map (some b)) key c).run P w = .ok (if c then .tuple #[z, .bool false] else z) w := by
  obtain ⟨es, clock, hb, rfl, hs, hk⟩ := h
  rcases K.find w hkey es.toList hk with ⟨h1, h2⟩ | ⟨j, e0, h1, h2, h3⟩
  · simp [Instr.lookup, run_underlying ht, MapKept.run_getObj_map hb, K.check w _ hkey, h1, hz, Result.andThen]
  · exact absurd h3 (hno (e0.key, e0.val) (List.mem_map.2 ⟨e0, List.mem_of_getElem? h2, rfl⟩))
theorem look_some {t e : TypeId} (h : MapAt P k w b L) (c : Bool) (K : Keyed P k) (ht : P.underlying t = some (.map k e)) {key v : Value} {kl : Lit} (hkey : keyOf P k key = some kl)
    (hin : (key, v) ∈ L) : (Instr.lookup t (.map (some b)) key c).run P w = .ok (if c then .tuple #[v, .bool true] else v) w := by
  have hn := h.nodup
  obtain ⟨es, clock, hb, rfl, hs, hk⟩ := h
  rcases K.find w hkey es.toList hk with ⟨h1, h2⟩ | ⟨j, e0, h1, h2, h3⟩
  · obtain ⟨x, hx, he⟩ := List.mem_map.1 hin
    exact absurd (congrArg Prod.fst he) (h2 x hx)
  · have hv : e0.val = v := by
      obtain ⟨i, hi, hie⟩ := List.getElem_of_mem hin
      have hj := (List.getElem?_eq_some_iff.1 h2).1
      by_cases e : i = j
      · subst e
        rw [List.getElem_map] at hie
        rw [List.getElem?_eq_getElem hj] at h2
        rw [Option.some.inj h2] at hie
        exact congrArg Prod.snd hie
      · exfalso
        have hjl : j < (es.toList.map (fun x => (x.key, x.val))).length := by simpa using hj
        have hje : (es.toList.map (fun x => (x.key, x.val)))[j] = (e0.key, e0.val) := by
          rw [List.getElem_map]
          rw [List.getElem?_eq_getElem hj] at h2
          rw [Option.some.inj h2]
        rcases Nat.lt_or_gt_of_ne e with hlt | hlt
        · have := List.pairwise_iff_getElem.1 hn i j hi hjl hlt
          rw [hie, hje] at this
          exact this h3.symm
        · have := List.pairwise_iff_getElem.1 hn j i hjl hi hlt
          rw [hie, hje] at this
          exact this h3
    rw [← hv]
    simp [Instr.lookup, run_underlying ht, MapKept.run_getObj_map hb, K.check w _ hkey, h1, Result.andThen]
/-- A store at a key that is not there. -/
theorem store {t e : TypeId} (h : MapAt P k w b L) (K : Keyed P k) (ht : P.underlying t = some (.map k e)) (hroom : L.length < maxLen) {key : Value} {kl : Lit} (val : Value) (hkey : keyOf P k key = some kl)
    (hno : ∀ p ∈ L, p.1 ≠ key) : ∃ w1, (Instr.mapUpdate t (.map (some b)) key val).run P w = .ok () w1 ∧ MapAt P k w1 b (L ++ [(key, val)]) ∧ Upto (fun i => i = b) w w1 ∧ w1.heap.size = w.heap.size ∧ w1.drawn = w.drawn := by
  have hlt := h.lt
  obtain ⟨es, clock, hb, rfl, hs, hk⟩ := h
  rcases K.find w hkey es.toList hk with ⟨h1, h2⟩ | ⟨j, e0, h1, h2, h3⟩
  · refine ⟨setBlock w b (.map (es.push ⟨key, val, clock⟩) (clock + 1)), ?_, ⟨_, _, heap_setBlock_same hb _, by simp, stamped_push hs h2, ?_⟩, ⟨rfl, rfl, rfl, by simp [setBlock], fun i _ hi => heap_setBlock_other hb _ (fun e => hi e)⟩, by simp [setBlock], rfl⟩
    · simp at hroom
      simp [Instr.mapUpdate, run_underlying ht, MapKept.run_getObj_map hb, K.check w false hkey, h1, MapKept.run_setObj_map _ hb, Result.andThen, setBlock]
    · intro x hx
      simp only [Array.toList_push, List.mem_append, List.mem_singleton] at hx
      rcases hx with hx | rfl
      · exact hk x hx
      · exact ⟨_, hkey⟩
  · exact absurd h3 (hno (e0.key, e0.val) (List.mem_map.2 ⟨e0, List.mem_of_getElem? h2, rfl⟩))
theorem drop {t e ty : TypeId} (h : MapAt P k w b L) (K : Keyed P k) (ht : P.underlying t = some (.map k e)) {key : Value} {kl : Lit} (hkey : keyOf P k key = some kl) {v : Value} {L1 L2 : List (Value × Value)}
    (hL : L = L1 ++ (key, v) :: L2) : ∃ w1, (Builtin.delete_ #[t, k] ty #[.map (some b), key]).run P w = .ok (.tuple #[]) w1 ∧ MapAt P k w1 b (L1 ++ L2) ∧ Upto (fun i => i = b) w w1 ∧ w1.heap.size = w.heap.size ∧ w1.drawn = w.drawn := by
  have hn := h.nodup
  obtain ⟨es, clock, hb, hm, hs, hk⟩ := h
  have hin : (key, v) ∈ es.toList.map (fun x => (x.key, x.val)) := by rw [hm, hL]; simp
  obtain ⟨x, hx, hxe⟩ := List.mem_map.1 hin
  rcases K.find w hkey es.toList hk with ⟨h1, h2⟩ | ⟨j, e0, h1, h2, h3⟩
  · exact absurd (congrArg Prod.fst hxe) (h2 x hx)
  · have hjl : j < es.toList.length := (List.getElem?_eq_some_iff.1 h2).1
    have hjs : j < es.size := by simpa using hjl
    have hsub : (es.eraseIdxIfInBounds j).toList = es.toList.eraseIdx j := by
      unfold Array.eraseIdxIfInBounds
      rw [dif_pos hjs]
      simp
    have hjL : j = L1.length := by
      have hjl' : j < L.length := by rw [← hm]; simpa using hjl
      have hjk : (L[j]'hjl').1 = key := by
        have : L[j]? = some (e0.key, e0.val) := by rw [← hm, List.getElem?_map, h2]; rfl
        rw [List.getElem?_eq_getElem hjl'] at this
        rw [Option.some.inj this]; exact h3
      have hl1 : L1.length < L.length := by rw [hL]; simp
      have hlk : (L[L1.length]'hl1).1 = key := by
        have : L[L1.length]? = some (key, v) := by rw [hL]; simp
        rw [List.getElem?_eq_getElem hl1] at this
        rw [Option.some.inj this]
      rcases Nat.lt_trichotomy j L1.length with hlt | he | hlt
      · exact absurd (hjk.trans hlk.symm) (List.pairwise_iff_getElem.1 hn j _ hjl' hl1 hlt)
      · exact he
      · exact absurd (hlk.trans hjk.symm) (List.pairwise_iff_getElem.1 hn _ j hl1 hjl' hlt)
    refine ⟨setBlock w b (.map (es.eraseIdxIfInBounds j) clock), ?_, ⟨_, _, heap_setBlock_same hb _, ?_, stamped_erase hs j, ?_⟩, ⟨rfl, rfl, rfl, by simp [setBlock], fun i _ hi => heap_setBlock_other hb _ (fun e => hi e)⟩, by simp [setBlock], rfl⟩
    · simp [Builtin.delete_, run_underlying ht, MapKept.run_getObj_map hb, K.check w _ hkey, h1, MapKept.run_setObj_map _ hb, Result.andThen, setBlock]
    · rw [hsub, map_eraseIdx, hm, hL, hjL, List.eraseIdx_append_of_length_le (Nat.le_refl _)]
      simp
    · intro y hy
      rw [hsub] at hy
      exact hk y ((List.eraseIdx_sublist _ _).subset hy)
theorem len {t e : TypeId} (h : MapAt P k w b L) (ht : P.underlying t = some (.map k e)) (ty : TypeId) : (Builtin.len_ #[t] ty #[.map (some b)]).run P w = .ok (.int .i64 L.length) w := by
  obtain ⟨es, clock, hb, rfl, hs, hk⟩ := h
  simp [Builtin.len_, run_underlying ht, MapKept.run_getObj_map hb, goInt, Result.andThen]
end MapAt
end Go.Proofs.Ytfiblchdfacdiaa
