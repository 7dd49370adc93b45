/- Wheels in plain words: handles, and when they are due, in the order in which they came. -/
namespace Go.Proofs.Ytgoaokgoenihlaa

/-- A handle. -/
structure Hn where
  s : Int
  g : Nat
deriving DecidableEq
structure Hn.Ok (h : Hn) : Prop where
  lo : -9223372036854775808 ≤ h.s
  hi : h.s ≤ 9223372036854775807
  g : h.g < 4294967296
/-- A handle, and when it is due. -/
structure Tm where
  d : Nat
  h : Hn
deriving DecidableEq
instance : Inhabited Tm := ⟨⟨0, ⟨0, 0⟩⟩⟩
/-- So many places; the last tick; who is there. -/
structure Wh where
  n : Nat
  last : Nat
  E : List Tm
/-- Where one stands that is due at d. -/
def plc (n last d : Nat) : Nat := max d last % n
def Wh.at (S : Wh) (k : Nat) : List Tm := S.E.filter fun t => plc S.n S.last t.d == k
def Wh.find (S : Wh) (h : Hn) : Option Tm := S.E.find? fun t => t.h == h
structure Wh.Ok (S : Wh) : Prop where
  pos : 1 ≤ S.n
  most : S.n ≤ 64
  last : S.last ≤ 1099511627776
  each : ∀ t ∈ S.E, t.d ≤ 1099511627776 ∧ t.h.Ok
  nodup : (S.E.map Tm.h).Nodup
  many : S.E.length ≤ 1000000
def Wh.put (S : Wh) (h : Hn) (d : Nat) : Wh := ⟨S.n, S.last, S.E ++ [⟨d, h⟩]⟩
def Wh.cut (S : Wh) (h : Hn) : Wh := ⟨S.n, S.last, S.E.filter fun t => !(t.h == h)⟩
def Wh.turn (S : Wh) (now : Nat) : Wh := ⟨S.n, now, S.E.filter fun t => !decide (t.d ≤ now)⟩

theorem plc_lt {n : Nat} (h : 1 ≤ n) (last d : Nat) : plc n last d < n := Nat.mod_lt _ h
theorem Wh.find_mem {S : Wh} {h : Hn} {t : Tm} (hf : S.find h = some t) : t ∈ S.E ∧ t.h = h := by
  have h1 := List.mem_of_find?_eq_some hf
  have h2 := List.find?_some hf
  exact ⟨h1, by simpa using h2⟩
theorem Wh.find_none {S : Wh} {h : Hn} (hf : S.find h = none) : ∀ t ∈ S.E, ¬ t.h = h := by
  intro t ht e
  have := List.find?_eq_none.1 hf t ht
  simp [e] at this
theorem Wh.at_le (S : Wh) (k : Nat) : (S.at k).length ≤ S.E.length := List.length_filter_le _ _
theorem Wh.put_at (S : Wh) (h : Hn) (d k : Nat) : (S.put h d).at k = S.at k ++ (if plc S.n S.last d = k then [⟨d, h⟩] else []) := by
  unfold Wh.at Wh.put
  rw [List.filter_append]
  congr 1
  by_cases e : plc S.n S.last d = k <;> simp [e]
theorem Wh.cut_at (S : Wh) (h : Hn) (k : Nat) : (S.cut h).at k = (S.at k).filter fun t => !(t.h == h) := by
  unfold Wh.at Wh.cut
  rw [List.filter_filter, List.filter_filter]
  congr 1
  funext t
  rw [Bool.and_comm]
theorem Wh.put_ok {S : Wh} (hS : S.Ok) {h : Hn} {d : Nat} (hh : h.Ok) (hd : d ≤ 1099511627776) (hf : S.find h = none) (hm : S.E.length < 1000000) : (S.put h d).Ok := by
  refine ⟨hS.pos, hS.most, hS.last, fun t ht => ?_, ?_, ?_⟩
  · rcases List.mem_append.1 ht with ht | ht
    · exact hS.each t ht
    · simp at ht; subst ht; exact ⟨hd, hh⟩
  · show ((S.E ++ [(⟨d, h⟩ : Tm)]).map Tm.h).Nodup
    rw [List.map_append, List.nodup_append]
    refine ⟨hS.nodup, by simp, ?_⟩
    intro a ha b hb e
    simp at hb
    subst hb
    obtain ⟨t, ht, rfl⟩ := List.mem_map.1 ha
    exact Wh.find_none hf t ht e
  · show (S.E ++ [(⟨d, h⟩ : Tm)]).length ≤ 1000000
    simp; omega
theorem nodup_filter {p : Tm → Bool} {l : List Tm} (h : (l.map Tm.h).Nodup) : ((l.filter p).map Tm.h).Nodup := by
  exact List.Nodup.sublist (List.Sublist.map Tm.h List.filter_sublist) h
theorem Wh.cut_ok {S : Wh} (hS : S.Ok) (h : Hn) : (S.cut h).Ok :=
  ⟨hS.pos, hS.most, hS.last, fun t ht => hS.each t (List.mem_filter.1 ht).1, nodup_filter hS.nodup, Nat.le_trans (List.length_filter_le _ _) hS.many⟩
theorem Wh.turn_ok {S : Wh} (hS : S.Ok) {now : Nat} (hn : now ≤ 1099511627776) : (S.turn now).Ok :=
  ⟨hS.pos, hS.most, hn, fun t ht => hS.each t (List.mem_filter.1 ht).1, nodup_filter hS.nodup, Nat.le_trans (List.length_filter_le _ _) hS.many⟩
/-- Behind a Turn those that are left stand where they stood. -/
theorem Wh.turn_at {S : Wh} {now : Nat} (hn : S.last ≤ now) (k : Nat) : (S.turn now).at k = (S.at k).filter fun t => !decide (t.d ≤ now) := by
  unfold Wh.at Wh.turn
  rw [List.filter_filter, List.filter_filter]
  refine List.filter_congr fun t _ => ?_
  by_cases h : t.d ≤ now
  · simp [h]
  · have e : plc S.n now t.d = plc S.n S.last t.d := by unfold plc; congr 1; omega
    simp [h, e]
end Go.Proofs.Ytgoaokgoenihlaa
