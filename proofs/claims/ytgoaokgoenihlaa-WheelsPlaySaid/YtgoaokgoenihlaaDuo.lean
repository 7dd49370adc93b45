/- A wheel and the document's, side by side: each method, and what both are behind it. -/
import Derived.Test.YtgoaokgoenihlaaRefP
namespace Go.Proofs.Ytgoaokgoenihlaa
open Go Go.RowKit Go.Deep Go.Maps

/-- The document's wheel at block y, all of whose blocks are among those in O. -/
def RAt (w : World) (y : Nat) (O : Nat → Prop) (R : Rf) : Prop := ∃ p c, RIn w y p c R ∧ O y ∧ (∀ k, LO p k → O k) ∧ ∀ k, O k → k < w.heap.size
theorem RAt.gen {w w' : World} {y : Nat} {O T : Nat → Prop} {R : Rf} (h : RAt w y O R) (hu : Upto T w w') (hT : ∀ k, T k → ¬ O k) : RAt w' y O R := by
  obtain ⟨p, c, h1, h2, h3, h4⟩ := h
  refine ⟨p, c, h1.gen hu (fun k hk e => hT k hk ?_), h2, h3, fun k hk => Nat.lt_of_lt_of_le (h4 k hk) hu.size⟩
  rcases e with rfl | e
  · exact h2
  · exact h3 k e
/-- One that was made since w; those in K are others'. -/
structure RdO (w wr : World) (y : Nat) (O : Nat → Prop) (R : Rf) (K : Nat → Prop) : Prop where
  at_ : RAt wr y O R
  u : Upto NoS w wr
  lo : ∀ k, O k → w.heap.size ≤ k
  apart : ∀ k, K k → ¬ O k
  kl : ∀ k, K k → k < wr.heap.size
namespace RdO
variable {w wr w' : World} {y : Nat} {O K K' : Nat → Prop} {R : Rf}
theorem olt (h : RdO w wr y O R K) : ∀ k, O k → k < wr.heap.size := by obtain ⟨p, c, _, _, _, h4⟩ := h.at_; exact h4
theorem quiet (h : RdO w wr y O R K) (hu : Upto NoS wr w') : RdO w w' y O R K :=
  ⟨h.at_.gen hu (fun _ h => h.elim), h.u.trans hu, h.lo, h.apart, fun k hk => Nat.lt_of_lt_of_le (h.kl k hk) hu.size⟩
theorem mono (h : RdO w wr y O R K) (hK : ∀ k, K' k → K k) : RdO w wr y O R K' := ⟨h.at_, h.u, h.lo, fun k hk => h.apart k (hK k hk), fun k hk => h.kl k (hK k hk)⟩
theorem add (h : RdO w wr y O R K) (hu : Upto NoS wr w') (hK : ∀ k, K' k → K k ∨ (wr.heap.size ≤ k ∧ k < w'.heap.size)) : RdO w w' y O R K' := by
  have h1 := h.quiet hu
  refine ⟨h1.at_, h1.u, h1.lo, fun k hk hO => ?_, fun k hk => ?_⟩
  · rcases hK k hk with e | ⟨e, _⟩
    · exact h.apart k e hO
    · have := h.olt k hO; omega
  · rcases hK k hk with e | ⟨_, e⟩
    · exact h1.kl k e
    · exact e
end RdO
/-- Both, over the same handles. -/
structure Duo (w wr : World) (xa xb : Nat) (Oa Ob : Nat → Prop) (n last : Nat) (E : List Tm) (K : Nat → Prop) : Prop where
  a : WdO w wr xa Oa ⟨n, last, E⟩ (fun k => Ob k ∨ K k)
  b : RdO w wr xb Ob ⟨last, srt E⟩ (fun k => Oa k ∨ K k)
/-- The wheel has gone ahead. -/
structure Ahead (w wr : World) (xa xb : Nat) (Oa Ob : Nat → Prop) (S : Wh) (R : Rf) (K : Nat → Prop) : Prop where
  a : WdO w wr xa Oa S (fun k => Ob k ∨ K k)
  b : RdO w wr xb Ob R (fun k => Oa k ∨ K k)
theorem Duo.ah {w wr : World} {xa xb : Nat} {Oa Ob : Nat → Prop} {n last : Nat} {E : List Tm} {K : Nat → Prop} (h : Duo w wr xa xb Oa Ob n last E K) : Ahead w wr xa xb Oa Ob ⟨n, last, E⟩ ⟨last, srt E⟩ K := ⟨h.a, h.b⟩
theorem Ahead.du {w wr : World} {xa xb : Nat} {Oa Ob : Nat → Prop} {n last : Nat} {E : List Tm} {K : Nat → Prop} (h : Ahead w wr xa xb Oa Ob ⟨n, last, E⟩ ⟨last, srt E⟩ K) : Duo w wr xa xb Oa Ob n last E K := ⟨h.a, h.b⟩
namespace Ahead
variable {w wr w' : World} {xa xb : Nat} {Oa Ob Oa' K K' : Nat → Prop} {S S' : Wh} {R R' : Rf}
theorem quiet (h : Ahead w wr xa xb Oa Ob S R K) (hu : Upto NoS wr w') : Ahead w w' xa xb Oa Ob S R K := ⟨h.a.quiet hu, h.b.quiet hu⟩
theorem mono (h : Ahead w wr xa xb Oa Ob S R K) (hK : ∀ k, K' k → K k) : Ahead w wr xa xb Oa Ob S R K' := ⟨h.a.mono (fun k e => e.imp id (hK k)), h.b.mono (fun k e => e.imp id (hK k))⟩
theorem add (h : Ahead w wr xa xb Oa Ob S R K) (hu : Upto NoS wr w') (hK : ∀ k, K' k → K k ∨ (wr.heap.size ≤ k ∧ k < w'.heap.size)) : Ahead w w' xa xb Oa Ob S R K' :=
  ⟨h.a.add hu (fun k hk => hk.elim (fun e => .inl (.inl e)) (fun e => (hK k e).imp .inr id)), h.b.add hu (fun k hk => hk.elim (fun e => .inl (.inl e)) (fun e => (hK k e).imp .inr id))⟩
theorem stepA (h : Ahead w wr xa xb Oa Ob S R K) (ha : WdO w w' xa Oa' S' (fun k => Ob k ∨ K k)) (hu : Upto (fun k => ¬ (Ob k ∨ K k)) wr w') : Ahead w w' xa xb Oa' Ob S' R K :=
  ⟨ha, ⟨h.b.at_.gen hu (fun k hk ho => hk (.inl ho)), ha.u, h.b.lo, fun k hk ho => hk.elim (fun e => ha.apart k (.inl ho) e) (fun e => h.b.apart k (.inr e) ho), fun k hk => hk.elim (fun e => ha.olt k e) (fun e => ha.kl k (.inr e))⟩⟩
theorem stepT {F : Nat → Prop} (h : Ahead w wr xa xb Oa Ob S R K) (ha : WdO w w' xa Oa S' (fun k => (Ob k ∨ K k) ∨ F k)) (hu : Upto (fun k => ¬ (Ob k ∨ K k)) wr w') (hF : ∀ k, F k → wr.heap.size ≤ k) : Ahead w w' xa xb Oa Ob S' R (fun k => K k ∨ F k) :=
  ⟨ha.mono (fun k hk => by
      rcases hk with e | e | e
      · exact .inl (.inl e)
      · exact .inl (.inr e)
      · exact .inr e),
    ⟨h.b.at_.gen hu (fun k hk ho => hk (.inl ho)), ha.u, h.b.lo, fun k hk ho => by
      rcases hk with e | e | e
      · exact ha.apart k (.inl (.inl ho)) e
      · exact h.b.apart k (.inr e) ho
      · have := hF k e; have := h.b.olt k ho; omega, fun k hk => by
      rcases hk with e | e | e
      · exact ha.olt k e
      · exact ha.kl k (.inl (.inr e))
      · exact ha.kl k (.inr e)⟩⟩
/-- The document's one has turned; what it told, if it told anything, is others'. -/
theorem stepB {p p' : Option Addr} {c' : Nat} {F : Nat → Prop} (h : Ahead w wr xa xb Oa Ob S R K) (hp : ∀ k, LO p k → Ob k) (hi : RIn w' xb p' c' R') (hu : Upto (fun k => k = xb) wr w') (hl : ∀ k, LO p' k → LO p k ∨ wr.heap.size ≤ k)
    (hF : ∀ k, F k → wr.heap.size ≤ k ∧ k < w'.heap.size) (hFl : ∀ k, F k → ¬ LO p' k) : ∃ Ob', Ahead w w' xa xb Oa Ob' S R' (fun k => K k ∨ F k) ∧ Upto (fun k => ¬ K k) wr w' := by
  obtain ⟨p0, c0, h1, h2, h3, h4⟩ := h.b.at_
  have hbx : Ob xb := h2
  have hus := h.a.u.size
  have hsz := hu.size
  have hnew : ∀ k, LO p' k → Ob k ∨ wr.heap.size ≤ k := fun k hk => (hl k hk).imp (hp k) id
  have hua : WdO w w' xa Oa S (fun k => Ob k ∨ K k) := h.a.other hu (fun k e ho => by subst e; exact h.a.apart k (.inl hbx) ho) (fun k e => by subst e; exact h.b.lo k hbx)
  refine ⟨fun k => Ob k ∨ LO p' k, ⟨⟨hua.at_, hua.u, hua.lo, fun k hk ho => ?_, fun k hk => ?_⟩, ⟨⟨p', c', hi, .inl hbx, fun k hk => .inr hk, fun k hk => ?_⟩, hua.u, fun k hk => ?_, fun k hk ho => ?_, fun k hk => ?_⟩⟩, hu.mono (fun k _ e hK => by subst e; exact h.b.apart k (.inr hK) hbx)⟩
  · have hol := h.a.olt k ho
    rcases hk with (e | e) | e | e
    · exact h.a.apart k (.inl e) ho
    · rcases hnew k e with e | e
      · exact h.a.apart k (.inl e) ho
      · omega
    · exact h.a.apart k (.inr e) ho
    · have := (hF k e).1; omega
  · rcases hk with (e | e) | e | e
    · exact hua.kl k (.inl e)
    · exact hi.pl k e
    · exact hua.kl k (.inr e)
    · exact (hF k e).2
  · rcases hk with e | e
    · exact Nat.lt_of_lt_of_le (h4 k e) hsz
    · exact hi.pl k e
  · rcases hk with e | e
    · exact h.b.lo k e
    · rcases hnew k e with e | e
      · exact h.b.lo k e
      · omega
  · rcases hk with e | e | e
    · rcases ho with o | o
      · exact h.b.apart k (.inl e) o
      · rcases hnew k o with o | o
        · exact h.b.apart k (.inl e) o
        · have := h.a.olt k e; omega
    · rcases ho with o | o
      · exact h.b.apart k (.inr e) o
      · rcases hnew k o with o | o
        · exact h.b.apart k (.inr e) o
        · have := h.b.kl k (.inr e); omega
    · rcases ho with o | o
      · have := (hF k e).1; have := h4 k o; omega
      · exact hFl k e o
  · rcases hk with e | e | e
    · exact hua.olt k e
    · exact hua.kl k (.inr e)
    · exact (hF k e).2
end Ahead
def DuoA (w : World) (xa xb : Nat) (Ob K : Nat → Prop) (wr : World) (v : Value) (S' : Wh) (R : Rf) (e : Ending) (w' : World) : Prop := e = .returned v ∧ ∃ Oa', Ahead w w' xa xb Oa' Ob S' R K ∧ Upto (fun k => ¬ K k) wr w'
def DuoB (w : World) (xa xb : Nat) (Oa K : Nat → Prop) (wr : World) (v : Value) (S : Wh) (R' : Rf) (e : Ending) (w' : World) : Prop := e = .returned v ∧ ∃ Ob', Ahead w w' xa xb Oa Ob' S R' K ∧ Upto (fun k => ¬ K k) wr w'
section
variable {w wr : World} {xa xb : Nat} {Oa Ob K : Nat → Prop} {S S' : Wh} {R R' : Rf}
theorem duo_of {v : Value} {e : Ending} {w' : World} (h : Ahead w wr xa xb Oa Ob S R K) (hp : WPost w xa (fun k => Ob k ∨ K k) wr v S' e w') : DuoA w xa xb Ob K wr v S' R e w' := by
  obtain ⟨rfl, O', h1, h2⟩ := hp
  exact ⟨rfl, O', h.stepA h1 h2, h2.mono (fun k _ hk e => hk (.inr e))⟩
theorem duo_told {v : Value} {e : Ending} {w' : World} (h : Ahead w wr xa xb Oa Ob S R K) (hp : Told v wr e w') : DuoB w xa xb Oa K wr v S R e w' := by
  obtain ⟨rfl, h2⟩ := hp
  exact ⟨rfl, Ob, h.quiet h2, h2.mono (fun _ _ h => h.elim)⟩
theorem dput_a (h : Ahead w wr xa xb Oa Ob S R K) (a : Hn) (d : Int) {e s g : Int} (hl : Lies a s g) (ha : a.Ok) (hm : S.E.length < 1000000) (h1 : S.putE a d = e) (h2 : S.putS a d = S') :
    Calls Try.prog 10 #[.pointer (some ⟨xa, 0, none⟩), .agg #[.int .i64 s, .int .u32 g], .int .i64 d] wr (DuoA w xa xb Ob K wr (.int .i64 e) S' R) := (W_put_to h.a a d hl ha hm h1 h2).mono fun _ _ hp => duo_of h hp
theorem dcut_a (h : Ahead w wr xa xb Oa Ob S R K) (a : Hn) {q : Bool} {s g : Int} (hl : Lies a s g) (ha : a.Ok) (h1 : (S.find a).isSome = q) (h2 : S.cut a = S') :
    Calls Try.prog 15 #[.pointer (some ⟨xa, 0, none⟩), .agg #[.int .i64 s, .int .u32 g]] wr (DuoA w xa xb Ob K wr (.bool q) S' R) := (W_cut_to h.a a hl ha h1 h2).mono fun _ _ hp => duo_of h hp
theorem ddue_a (h : Ahead w wr xa xb Oa Ob S R K) (a : Hn) {v : Value} {s g : Int} (hl : Lies a s g) (ha : a.Ok) (h1 : dueV (S.find a) = v) :
    Calls Try.prog 21 #[.pointer (some ⟨xa, 0, none⟩), .agg #[.int .i64 s, .int .u32 g]] wr (DuoA w xa xb Ob K wr v S R) := (W_due_to h.a a hl ha h1).mono fun _ _ hp => duo_of h hp
theorem dnext_a (h : Ahead w wr xa xb Oa Ob S R K) {v : Value} (h1 : nextV S.E = v) : Calls Try.prog 11 #[.pointer (some ⟨xa, 0, none⟩)] wr (DuoA w xa xb Ob K wr v S R) := (W_next_to h.a h1).mono fun _ _ hp => duo_of h hp
theorem dcount_a (h : Ahead w wr xa xb Oa Ob S R K) {m : Nat} (h1 : S.E.length = m) : Calls Try.prog 13 #[.pointer (some ⟨xa, 0, none⟩)] wr fun e w' => e = .returned (.int .i64 (m : Nat)) ∧ wr = w' := by rw [← h1]; exact W_count h.a
theorem dturn_a (h : Ahead w wr xa xb Oa Ob S R K) (now : Int) {er : Int} {n : Nat} {L : List Hn} (h1 : S.turnE now = er) (h2 : S.turnL now = L) (h3 : S.turnS now = S') (h4 : L.length = n) :
    Calls Try.prog 12 #[.pointer (some ⟨xa, 0, none⟩), .int .i64 now] wr fun e w' => ∃ a c, e = .returned (.tuple #[.slice a n c, .int .i64 er]) ∧ w'.ownsRow wr.heap.size 31 2 (.slice a n c) L.length (hcl L) ∧ Ahead w w' xa xb Oa Ob S' R (fun k => K k ∨ (Value.slice a n c).ownBlock = some k) ∧ Upto (fun k => ¬ K k) wr w' := by
  refine (W_turn_to h.a now h1 h2 h3 h4).mono ?_
  rintro e w' ⟨a, c, rfl, ho, hW, hu⟩
  exact ⟨a, c, rfl, ho, h.stepT hW hu (fun k hk => (ho.lt k hk).1), hu.mono (fun k _ hk e => hk (.inr e))⟩
/-! ### The document's -/
def Rf.putE (R : Rf) (a : Hn) (d : Int) : Int := if d < 0 ∨ 1099511627776 < d then 2 else if fI R.L a < R.L.length then 7 else 0
def Rf.putS (R : Rf) (a : Hn) (d : Int) : Rf := if d < 0 ∨ 1099511627776 < d then R else if fI R.L a < R.L.length then R else R.ins ⟨d.toNat, a⟩
theorem of_new {R'' : Rf} {p : Option Addr} {v : Value} {e : Ending} {w' : World} (h : Ahead w wr xa xb Oa Ob S R K) (hp : ∀ k, LO p k → Ob k) (hr : RNewP xb p R'' wr v e w') : DuoB w xa xb Oa K wr v S R'' e w' := by
  obtain ⟨rfl, p', c', hi, hu, hl⟩ := hr
  obtain ⟨Ob', h1, h2⟩ := h.stepB (F := fun _ => False) hp hi hu hl (fun _ h => h.elim) (fun _ h => h.elim)
  exact ⟨rfl, Ob', h1.mono (fun k hk => .inl hk), h2⟩
theorem dput_b (h : Ahead w wr xa xb Oa Ob S R K) (a : Hn) (d : Int) {e s g : Int} (hl : Lies a s g) (ha : a.Ok) (hm : R.L.length < 1000000) (h1 : R.putE a d = e) (h2 : R.putS a d = R') :
    Calls Try.prog 20 #[.pointer (some ⟨xb, 0, none⟩), .agg #[.int .i64 s, .int .u32 g], .int .i64 d] wr (DuoB w xa xb Oa K wr (.int .i64 e) S R') := by
  rw [← h1, ← h2, ← hl.1, ← hl.2]
  obtain ⟨p, c, hi, hx, hp, _⟩ := h.b.at_
  unfold Rf.putE Rf.putS
  by_cases hd : d < 0 ∨ 1099511627776 < d
  · rw [if_pos hd, if_pos hd]
    exact (Put_r_arg wr xb p c R a d hi hd).mono fun _ _ ht => duo_told h ht
  · rw [if_neg hd, if_neg hd]
    obtain ⟨n, rfl⟩ := Int.eq_ofNat_of_zero_le (by omega : 0 ≤ d)
    by_cases hf : fI R.L a < R.L.length
    · rw [if_pos hf, if_pos hf]
      exact (Put_r_have wr xb p c R a n hi (by omega) hf).mono fun _ _ ht => duo_told h ht
    · rw [if_neg hf, if_neg hf, Int.toNat_natCast]
      exact (Put_r wr xb p c R a n hi ha (by omega) hf hm).mono fun _ _ ht => of_new h hp ht
theorem dcut_b (h : Ahead w wr xa xb Oa Ob S R K) (a : Hn) {q : Bool} {s g : Int} (hl : Lies a s g) (h1 : decide (fI R.L a < R.L.length) = q) (h2 : (if fI R.L a < R.L.length then ⟨R.last, R.L.take (fI R.L a) ++ R.L.drop (fI R.L a + 1)⟩ else R) = R') :
    Calls Try.prog 18 #[.pointer (some ⟨xb, 0, none⟩), .agg #[.int .i64 s, .int .u32 g]] wr (DuoB w xa xb Oa K wr (.bool q) S R') := by
  rw [← h1, ← h2, ← hl.1, ← hl.2]
  obtain ⟨p, c, hi, hx, hp, _⟩ := h.b.at_
  by_cases hf : fI R.L a < R.L.length
  · rw [if_pos hf, decide_eq_true hf]
    exact (Cut_r wr xb p c R a hi hf).mono fun _ _ ht => of_new h hp ht
  · rw [if_neg hf, decide_eq_false hf]
    exact (Cut_r_no wr xb p c R a hi hf).mono fun _ _ ht => duo_told h ht
theorem ddue_b (h : Ahead w wr xa xb Oa Ob S R K) (a : Hn) {v : Value} {s g : Int} (hl : Lies a s g) (h1 : dueR R.L a = v) :
    Calls Try.prog 22 #[.pointer (some ⟨xb, 0, none⟩), .agg #[.int .i64 s, .int .u32 g]] wr (DuoB w xa xb Oa K wr v S R) := by
  rw [← h1, ← hl.1, ← hl.2]
  obtain ⟨p, c, hi, _⟩ := h.b.at_
  exact (Due_r wr xb p c R a hi).mono fun _ _ ht => duo_told h ht
theorem dnext_b (h : Ahead w wr xa xb Oa Ob S R K) {v : Value} (h1 : hdV R.L = v) : Calls Try.prog 23 #[.pointer (some ⟨xb, 0, none⟩)] wr fun e w' => e = .returned v ∧ wr = w' := by
  rw [← h1]
  obtain ⟨p, c, hi, _⟩ := h.b.at_
  exact Next_r wr xb p c R hi
theorem dcount_b (h : Ahead w wr xa xb Oa Ob S R K) {m : Nat} (h1 : R.L.length = m) : Calls Try.prog 24 #[.pointer (some ⟨xb, 0, none⟩)] wr fun e w' => e = .returned (.int .i64 (m : Nat)) ∧ wr = w' := by
  rw [← h1]
  obtain ⟨p, c, hi, _⟩ := h.b.at_
  exact Count_r wr xb p c R hi
def Rf.turnE (R : Rf) (now : Int) : Int := if now < R.last ∨ 1099511627776 < now then 2 else 0
def Rf.turnS (R : Rf) (now : Int) : Rf := if now < R.last ∨ 1099511627776 < now then R else ⟨now.toNat, R.L.dropWhile (dueNow now.toNat)⟩
def Rf.turnL (R : Rf) (now : Int) : List Hn := if now < R.last ∨ 1099511627776 < now then [] else (R.L.takeWhile (dueNow now.toNat)).map Tm.h
theorem dturn_b (h : Ahead w wr xa xb Oa Ob S R K) (now : Int) {er : Int} {n : Nat} {L : List Hn} (h1 : R.turnE now = er) (h2 : R.turnL now = L) (h3 : R.turnS now = R') (h4 : L.length = n) :
    Calls Try.prog 19 #[.pointer (some ⟨xb, 0, none⟩), .int .i64 now] wr fun e w' => ∃ a c, e = .returned (.tuple #[.slice a n c, .int .i64 er]) ∧ w'.ownsRow wr.heap.size 31 2 (.slice a n c) L.length (hcl L) ∧ (∃ Ob', Ahead w w' xa xb Oa Ob' S R' (fun k => K k ∨ (Value.slice a n c).ownBlock = some k)) ∧ Upto (fun k => ¬ K k) wr w' := by
  subst h4
  rw [← h1, ← h2, ← h3]
  obtain ⟨p, c, hi, hx, hp, _⟩ := h.b.at_
  unfold Rf.turnE Rf.turnL Rf.turnS
  by_cases hd : now < R.last ∨ 1099511627776 < now
  · rw [if_pos hd, if_pos hd, if_pos hd]
    refine (Turn_r_err wr xb p c R now hi hd).mono ?_
    rintro e w' ⟨rfl, rfl⟩
    exact ⟨none, 0, rfl, ⟨rfl, .inl ⟨rfl, rfl⟩⟩, ⟨Ob, h.mono (fun k hk => hk.elim id (fun e => by simp [Value.ownBlock] at e))⟩, Upto.refl _ _⟩
  · rw [if_neg hd, if_neg hd, if_neg hd]
    obtain ⟨m, rfl⟩ := Int.eq_ofNat_of_zero_le (by omega : 0 ≤ now)
    simp only [Int.toNat_natCast]
    refine (Turn_r wr xb p c R m hi (by omega) (by omega)).mono ?_
    rintro e w' ⟨vo, p', c', rfl, hi', ho, hu, hl⟩
    obtain ⟨a, c2, rfl, _⟩ := own_slice ho
    obtain ⟨Ob', h5, h6⟩ := h.stepB (F := fun k => (Value.slice a _ c2).ownBlock = some k) hp hi' hu (fun k hk => .inl (hl k hk)) (fun k hk => ho.lt k hk) (fun k hk e => by
      have := (ho.lt k hk).1; have := h.b.olt k (hp k (hl k e)); omega)
    exact ⟨a, c2, rfl, ho, ⟨Ob', h5⟩, h6⟩
end
theorem LO_none {k : Nat} : ¬ LO none k := fun ⟨_, e⟩ => by cases e
theorem Duo.start {w w1 w2 : World} {xa xb : Nat} {Oa : Nat → Prop} {n : Nat} (ha : WdO w w1 xa Oa (fresh n) (fun _ => False)) (hb : RIn w2 xb none 0 ⟨0, []⟩) (hu : Upto NoS w1 w2) (hx : w1.heap.size ≤ xb) : Duo w w2 xa xb Oa (fun k => k = xb) n 0 [] (fun _ => False) := by
  have hs : srt [] = [] := List.eq_nil_of_length_eq_zero (by rw [srt_length]; rfl)
  have hs1 := ha.u.size
  refine ⟨⟨(ha.quiet hu).at_, (ha.quiet hu).u, ha.lo, fun k hk ho => ?_, fun k hk => ?_⟩, ⟨⟨none, 0, by rw [hs]; exact hb, rfl, fun k e => absurd e LO_none, fun k e => by rw [show k = xb from e]; exact hb.lt⟩, (ha.quiet hu).u, fun k (e : k = xb) => by omega, fun k hk ho => ?_, fun k hk => ?_⟩⟩
  · rcases hk with e | e
    · have := ha.olt k ho; omega
    · exact e
  · rcases hk with e | e
    · rw [e]; exact hb.lt
    · exact e.elim
  · rcases hk with e | e
    · have := ha.olt k e; omega
    · exact e
  · rcases hk with e | e
    · exact Nat.lt_of_lt_of_le (ha.olt k e) hu.size
    · exact e.elim
end Go.Proofs.Ytgoaokgoenihlaa
