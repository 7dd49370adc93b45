/- Wheels that a call has made itself: what each method leaves. -/
import Derived.Test.YtgoaokgoenihlaaWalkJ
import Derived.Test.YtgoaokgoenihlaaWalkA
namespace Go.Proofs.Ytgoaokgoenihlaa
open Go Go.RowKit Go.Deep Go.Maps

/-- A wheel at x that was made since w, of the blocks in O; those in K are others'. -/
structure WdO (w wr : World) (x : Nat) (O : Nat → Prop) (S : Wh) (K : Nat → Prop) : Prop where
  at_ : WhAt wr x O S
  u : Upto NoS w wr
  lo : ∀ k, O k → w.heap.size ≤ k
  apart : ∀ k, K k → ¬ O k
  kl : ∀ k, K k → k < wr.heap.size
/-- What a method leaves. -/
def WPost (w : World) (x : Nat) (K : Nat → Prop) (wr : World) (v : Value) (S' : Wh) (e : Ending) (w' : World) : Prop :=
  e = .returned v ∧ ∃ O', WdO w w' x O' S' K ∧ Upto (fun k => ¬ K k) wr w'

namespace WdO
variable {w wr w' : World} {x : Nat} {O K K' : Nat → Prop} {S : Wh}
theorem ok (h : WdO w wr x O S K) : S.Ok := by obtain ⟨g, m, vs, h1, _⟩ := h.at_; exact h1.ok
theorem quiet (h : WdO w wr x O S K) (hu : Upto NoS wr w') : WdO w w' x O S K :=
  ⟨h.at_.gen hu (fun _ h => h.elim), h.u.trans hu, h.lo, h.apart, fun k hk => Nat.lt_of_lt_of_le (h.kl k hk) hu.size⟩
theorem mono (h : WdO w wr x O S K) (hK : ∀ k, K' k → K k) : WdO w wr x O S K' := ⟨h.at_, h.u, h.lo, fun k hk => h.apart k (hK k hk), fun k hk => h.kl k (hK k hk)⟩
theorem olt (h : WdO w wr x O S K) : ∀ k, O k → k < wr.heap.size := by obtain ⟨g, m, vs, _, _, h3⟩ := h.at_; exact h3
/-- What is new is others'. -/
theorem add (h : WdO w wr x O S K) (hu : Upto NoS wr w') (hK : ∀ k, K' k → K k ∨ (wr.heap.size ≤ k ∧ k < w'.heap.size)) : WdO w w' x O S K' := by
  have h1 := h.quiet hu
  refine ⟨h1.at_, h1.u, h1.lo, fun k hk hO => ?_, fun k hk => ?_⟩
  · rcases hK k hk with e | ⟨e, _⟩
    · exact h.apart k e hO
    · have := h.olt k hO; omega
  · rcases hK k hk with e | ⟨_, e⟩
    · exact h1.kl k e
    · exact e
/-- Other blocks are written. -/
theorem other {T : Nat → Prop} (h : WdO w wr x O S K) (hu : Upto T wr w') (hT : ∀ k, T k → ¬ O k) (hT' : ∀ k, T k → w.heap.size ≤ k) : WdO w w' x O S K :=
  ⟨h.at_.gen hu hT, h.u.trans' hu (fun k hk e => by have := hT' k e; omega), h.lo, h.apart, fun k hk => Nat.lt_of_lt_of_le (h.kl k hk) hu.size⟩
theorem step {S' : Wh} {g m : Nat} {vs vs' : Nat → Value} {T : Nat → Prop} (h : WdO w wr x O S K) (hO : ∀ k, WhS x g m vs S.n k → O k) (hi : WhIn w' x g m vs' S') (hn : S'.n = S.n) (hu : Upto T wr w') (hT : ∀ k, T k → O k)
    (hv : ∀ i, i < S.n → ∀ k, (vs' i).ownBlock = some k → O k ∨ wr.heap.size ≤ k) : ∃ O', WdO w w' x O' S' K ∧ Upto (fun k => ¬ K k) wr w' := by
  have hin : ∀ k, WhS x g m vs' S'.n k → O k ∨ wr.heap.size ≤ k := by
    rintro k (e | e | e | ⟨i, hi, e⟩)
    · exact .inl (hO k (.inl e))
    · exact .inl (hO k (.inr (.inl e)))
    · exact .inl (hO k (.inr (.inr (.inl e))))
    · exact hv i (by rw [← hn]; exact hi) k e
  have hus := h.u.size
  refine ⟨WhS x g m vs' S'.n, ⟨⟨g, m, vs', hi, fun k hk => hk, fun k hk => hi.mid.slt hk⟩, h.u.trans' hu (fun k hk e => by have := h.lo k (hT k e); omega), fun k hk => ?_, fun k hk e => ?_, fun k hk => Nat.lt_of_lt_of_le (h.kl k hk) hu.size⟩, hu.mono (fun k _ e hK => h.apart k hK (hT k e))⟩
  · rcases hin k hk with e | e
    · exact h.lo k e
    · omega
  · rcases hin k e with e | e
    · exact h.apart k hk e
    · have := h.kl k hk; omega
end WdO
theorem WPost.of_told {w wr : World} {x : Nat} {O K : Nat → Prop} {S : Wh} {v : Value} (h : WdO w wr x O S K) {e : Ending} {w' : World} (ht : Told v wr e w') : WPost w x K wr v S e w' :=
  ⟨ht.1, O, h.quiet ht.2, ht.2.mono (fun _ _ h => h.elim)⟩

def Wh.putE (S : Wh) (a : Hn) (d : Int) : Int := if d < 0 ∨ 1099511627776 < d then 2 else if (S.find a).isSome then 7 else 0
def Wh.putS (S : Wh) (a : Hn) (d : Int) : Wh := if d < 0 ∨ 1099511627776 < d then S else if (S.find a).isSome then S else S.put a d.toNat
theorem Wh.cut_none {S : Wh} {a : Hn} (h : S.find a = none) : S.cut a = S := by
  unfold Wh.cut
  have : (S.E.filter fun t => !(t.h == a)) = S.E := List.filter_eq_self.2 fun t ht => by
    have := Wh.find_none h t ht
    simpa using this
  rw [this]

section
variable {w wr : World} {x : Nat} {O K : Nat → Prop} {S : Wh}
theorem W_put (h : WdO w wr x O S K) {a : Hn} (ha : a.Ok) (d : Int) (hm : S.E.length < 1000000) :
    Calls Try.prog 10 #[.pointer (some ⟨x, 0, none⟩), hv a, .int .i64 d] wr (WPost w x K wr (.int .i64 (S.putE a d)) (S.putS a d)) := by
  obtain ⟨g, m, vs, hi, hO, hl⟩ := h.at_
  unfold Wh.putE Wh.putS
  by_cases hd : d < 0 ∨ 1099511627776 < d
  · rw [if_pos hd, if_pos hd]
    exact (Put_arg wr x g m vs S a d hi hd).mono fun _ _ ht => WPost.of_told h ht
  · rw [if_neg hd, if_neg hd]
    obtain ⟨n, rfl⟩ := Int.eq_ofNat_of_zero_le (by omega : 0 ≤ d)
    cases hf : S.find a with
    | some t =>
      simp only [Option.isSome_some, if_true]
      exact (Put_have wr x g m vs S a n t hi ha (by omega) hf).mono fun _ _ ht => WPost.of_told h ht
    | none =>
      simp only [Option.isSome_none, Bool.false_eq_true, if_false, Int.toNat_natCast]
      obtain ⟨q, hq⟩ : ∃ q, plc S.n S.last n = q := ⟨_, rfl⟩
      have hqn : q < S.n := by rw [← hq]; exact plc_lt hi.ok.pos _ _
      refine (Put_ok wr x g m q vs S a n hi ha (by omega) hf hm hq).mono ?_
      rintro e w' ⟨rfl, nv, hi', hu, hnv⟩
      have hT : ∀ k, k = m ∨ k = g ∨ (vs q).ownBlock = some k → O k := by
        rintro k (e | e | e)
        · exact hO k (.inr (.inr (.inl e)))
        · exact hO k (.inr (.inl e))
        · exact hO k (.inr (.inr (.inr ⟨q, hqn, e⟩)))
      refine ⟨rfl, h.step hO hi' rfl hu hT (fun i hin k hk => ?_)⟩
      by_cases e : i = q
      · subst e
        simp only [if_true] at hk
        rcases hnv k hk with e | e
        · exact .inl (hO k (.inr (.inr (.inr ⟨i, hin, e⟩))))
        · exact .inr e
      · simp only [if_neg e] at hk
        exact .inl (hO k (.inr (.inr (.inr ⟨i, hin, hk⟩))))
theorem W_cut (h : WdO w wr x O S K) {a : Hn} (ha : a.Ok) :
    Calls Try.prog 15 #[.pointer (some ⟨x, 0, none⟩), hv a] wr (WPost w x K wr (.bool (S.find a).isSome) (S.cut a)) := by
  obtain ⟨g, m, vs, hi, hO, hl⟩ := h.at_
  cases hf : S.find a with
  | none =>
    rw [Wh.cut_none hf]
    exact (Cut_no wr x g m vs S a hi ha hf).mono fun _ _ ht => WPost.of_told h ht
  | some t =>
    obtain ⟨q, hq⟩ : ∃ q, plc S.n S.last t.d = q := ⟨_, rfl⟩
    have hqn : q < S.n := by rw [← hq]; exact plc_lt hi.ok.pos _ _
    refine (Cut_yes wr x g m q vs S a t hi ha hf hq).mono ?_
    rintro e w' ⟨rfl, nv, hi', hu, hnv⟩
    have hT : ∀ k, k = m ∨ k = g ∨ (vs q).ownBlock = some k → O k := by
      rintro k (e | e | e)
      · exact hO k (.inr (.inr (.inl e)))
      · exact hO k (.inr (.inl e))
      · exact hO k (.inr (.inr (.inr ⟨q, hqn, e⟩)))
    refine ⟨rfl, h.step hO hi' rfl hu hT (fun i hin k hk => ?_)⟩
    by_cases e : i = q
    · subst e
      simp only [if_true] at hk
      rw [hnv] at hk
      exact .inl (hO k (.inr (.inr (.inr ⟨i, hin, hk⟩))))
    · simp only [if_neg e] at hk
      exact .inl (hO k (.inr (.inr (.inr ⟨i, hin, hk⟩))))
theorem W_due (h : WdO w wr x O S K) {a : Hn} (ha : a.Ok) :
    Calls Try.prog 21 #[.pointer (some ⟨x, 0, none⟩), hv a] wr (WPost w x K wr (dueV (S.find a)) S) := by
  obtain ⟨g, m, vs, hi, hO, hl⟩ := h.at_
  exact (Due_any wr x g m vs S a hi ha).mono fun _ _ ht => WPost.of_told h ht
theorem W_next (h : WdO w wr x O S K) : Calls Try.prog 11 #[.pointer (some ⟨x, 0, none⟩)] wr (WPost w x K wr (nextV S.E) S) := by
  obtain ⟨g, m, vs, hi, hO, hl⟩ := h.at_
  exact (Next_any wr x g m vs S hi).mono fun _ _ ht => WPost.of_told h ht
theorem W_count (h : WdO w wr x O S K) : Calls Try.prog 13 #[.pointer (some ⟨x, 0, none⟩)] wr fun e w' => e = .returned (.int .i64 (S.E.length : Nat)) ∧ wr = w' := by
  obtain ⟨g, m, vs, hi, hO, hl⟩ := h.at_
  exact Count_any wr x g m vs S hi
def Wh.turnE (S : Wh) (now : Int) : Int := if now < S.last ∨ 1099511627776 < now then 2 else 0
def Wh.turnS (S : Wh) (now : Int) : Wh := if now < S.last ∨ 1099511627776 < now then S else S.turn now.toNat
def Wh.turnL (S : Wh) (now : Int) : List Hn := if now < S.last ∨ 1099511627776 < now then [] else (S.told now.toNat).map Tm.h
/-- What Turn leaves: a row of its own, too. -/
def TPost (w : World) (x : Nat) (O K : Nat → Prop) (wr : World) (er : Int) (L : List Hn) (S' : Wh) (e : Ending) (w' : World) : Prop :=
  ∃ vo, e = .returned (.tuple #[vo, .int .i64 er]) ∧ w'.ownsRow wr.heap.size 31 2 vo L.length (hcl L) ∧ WdO w w' x O S' (fun k => K k ∨ vo.ownBlock = some k) ∧ Upto (fun k => ¬ K k) wr w'
theorem W_turn (h : WdO w wr x O S K) (now : Int) : Calls Try.prog 12 #[.pointer (some ⟨x, 0, none⟩), .int .i64 now] wr (TPost w x O K wr (S.turnE now) (S.turnL now) (S.turnS now)) := by
  obtain ⟨g, m, vs, hi, hO, hl⟩ := h.at_
  unfold Wh.turnE Wh.turnL Wh.turnS
  by_cases hd : now < S.last ∨ 1099511627776 < now
  · rw [if_pos hd, if_pos hd, if_pos hd]
    refine (Turn_arg wr x g m vs S now hi hd).mono ?_
    rintro e w' ⟨rfl, hu⟩
    exact ⟨_, rfl, ⟨rfl, .inl ⟨rfl, rfl⟩⟩, (h.quiet hu).mono (fun k hk => hk.elim id (fun e => by simp [Value.ownBlock] at e)), hu.mono (fun _ _ h => h.elim)⟩
  · rw [if_neg hd, if_neg hd, if_neg hd]
    obtain ⟨n, rfl⟩ := Int.eq_ofNat_of_zero_le (by omega : 0 ≤ now)
    simp only [Int.toNat_natCast]
    refine (Turn_ok wr x g m vs S n hi (by omega) (by omega)).mono ?_
    rintro e w' ⟨vo, vs', rfl, ho, hi', hu, hb⟩
    have hin : ∀ k, WhS x g m vs' S.n k → O k := by
      rintro k (e | e | e | ⟨i, hi, e⟩)
      · exact hO k (.inl e)
      · exact hO k (.inr (.inl e))
      · exact hO k (.inr (.inr (.inl e)))
      · exact hO k (.inr (.inr (.inr ⟨i, hi, by rw [← hb i hi]; exact e⟩)))
    have hT : ∀ k, WhS x g m vs S.n k → O k := hO
    refine ⟨vo, rfl, by rw [List.length_map]; exact ho, ⟨⟨g, m, vs', hi', hin, fun k hk => Nat.lt_of_lt_of_le (hl k hk) hu.size⟩, h.u.trans' hu (fun k hk e => by have := h.lo k (hO k e); omega), h.lo, fun k hk e => ?_, fun k hk => ?_⟩, hu.mono (fun k _ e hK => h.apart k hK (hO k e))⟩
    · rcases hk with hk | hk
      · exact h.apart k hk e
      · have := (ho.lt k hk).1; have := hl k e; omega
    · rcases hk with hk | hk
      · exact Nat.lt_of_lt_of_le (h.kl k hk) hu.size
      · exact (ho.lt k hk).2
end
theorem W_new (w wr : World) (n : Nat) (h1 : 1 ≤ n) (h2 : n ≤ 64) (hu : Upto NoS w wr) (K : Nat → Prop) (hK : ∀ k, K k → k < wr.heap.size) : Calls Try.prog 8 #[.int .i64 (n : Nat)] wr fun e w' => ∃ x O, e = .returned (.tuple #[.pointer (some ⟨x, 0, none⟩), .int .i64 0]) ∧ WdO w w' x O (fresh n) K ∧ Upto NoS wr w' := by
  refine (New_ok wr n h1 h2).mono ?_
  rintro e w' ⟨x, O, rfl, hat, hu', hlo⟩
  refine ⟨x, O, rfl, ⟨hat, hu.trans hu', fun k hk => Nat.le_trans hu.size (hlo k hk), fun k hk e => ?_, fun k hk => Nat.lt_of_lt_of_le (hK k hk) hu'.size⟩, hu'⟩
  have := hK k hk; have := hlo k e; omega
end Go.Proofs.Ytgoaokgoenihlaa
