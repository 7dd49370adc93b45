/- The program's ports and the document's, side by side. -/
import Derived.Test.YtfiblchdfacdiaaRfP
import Derived.Test.YtfiblchdfacdiaaActs
namespace Go.Proofs.Ytfiblchdfacdiaa
open Go Go.RowKit Go.Deep Go.Maps

/-- Ports at x, of rows R; the document's at y, of rows L; each made since w; those in K are others' blocks. -/
structure Duo (w wr : World) (x y : Nat) (O Oq : Nat → Prop) (R L : List Rw) (K : Nat → Prop) : Prop where
  p : PsD w wr x O R (fun k => Oq k ∨ K k)
  olt : ∀ k, O k → k < wr.heap.size
  q : ∃ a c, RIn wr w.heap.size y a c L ∧ ∀ k, RfS y a k → Oq k
  qlo : ∀ k, Oq k → w.heap.size ≤ k
  qa : ∀ k, K k → ¬ Oq k
namespace Duo
variable {w wr w' : World} {x y : Nat} {O Oq K K' : Nat → Prop} {R L : List Rw}
theorem u (h : Duo w wr x y O Oq R L K) : Upto NoS w wr := h.p.u
theorem kl (h : Duo w wr x y O Oq R L K) : ∀ k, K k → k < wr.heap.size := fun k hk => h.p.kl k (.inr hk)
theorem quiet (h : Duo w wr x y O Oq R L K) (hu : Upto NoS wr w') : Duo w w' x y O Oq R L K := by
  obtain ⟨a, c, h1, h2⟩ := h.q
  exact ⟨h.p.quiet hu, fun k hk => Nat.lt_of_lt_of_le (h.olt k hk) hu.size, ⟨a, c, h1.upto hu, h2⟩, h.qlo, h.qa⟩
theorem mono (h : Duo w wr x y O Oq R L K) (hK : ∀ k, K' k → K k) : Duo w wr x y O Oq R L K' :=
  ⟨h.p.mono (fun k hk => hk.imp id (hK k)), h.olt, h.q, h.qlo, fun k hk => h.qa k (hK k hk)⟩
/-- What is new is others'. -/
theorem add (h : Duo w wr x y O Oq R L K) (hu : Upto NoS wr w') (hK : ∀ k, K' k → K k ∨ (wr.heap.size ≤ k ∧ k < w'.heap.size)) : Duo w w' x y O Oq R L K' := by
  have h1 := h.quiet hu
  refine ⟨⟨h1.p.at_, h1.p.u, h1.p.lo, fun k hk ho => ?_, fun k hk => ?_⟩, h1.olt, h1.q, h1.qlo, fun k hk ho => ?_⟩
  · rcases hk with e | e
    · exact h.p.apart k (.inl e) ho
    · rcases hK k e with e | ⟨e, _⟩
      · exact h.p.apart k (.inr e) ho
      · have := h.olt k ho; omega
  · rcases hk with e | e
    · exact h1.p.kl k (.inl e)
    · rcases hK k e with e | ⟨_, e⟩
      · exact h1.p.kl k (.inr e)
      · exact e
  · rcases hK k hk with e | ⟨e, _⟩
    · exact h.qa k e ho
    · have := h.p.kl k (.inl ho); omega
/-- Others' blocks are written. -/
theorem other (h : Duo w wr x y O Oq R L K) {S : Nat → Prop} (hu : Upto S wr w') (hS : ∀ k, S k → K k) (hlo : ∀ k, S k → w.heap.size ≤ k) : Duo w w' x y O Oq R L K := by
  obtain ⟨a, c, h1, h2⟩ := h.q
  exact ⟨h.p.other hu (fun k hk => h.p.apart k (.inr (hS k hk))) hlo, fun k hk => Nat.lt_of_lt_of_le (h.olt k hk) hu.size, ⟨a, c, h1.gen hu (fun k hk e => h.qa k (hS k hk) (h2 k e)), h2⟩, h.qlo, h.qa⟩
/-- A step of the program's. -/
theorem stepP {R' : List Rw} (h : Duo w wr x y O Oq R L K) {O' : Nat → Prop} (hp : PsD w w' x O' R' (fun k => Oq k ∨ K k)) (hu : Upto (fun k => ¬ (Oq k ∨ K k)) wr w') : ∃ O', Duo w w' x y O' Oq R' L K := by
  obtain ⟨O2, h2, h3⟩ := hp.tight
  obtain ⟨a, c, h4, h5⟩ := h.q
  exact ⟨O2, h2, h3, ⟨a, c, h4.gen hu (fun k hk e => hk (.inl (h5 k e))), h5⟩, h.qlo, h.qa⟩
/-- A step of the document's. -/
theorem stepQ {L' : List Rw} {a a' : Option Addr} {c' : Nat} (h : Duo w wr x y O Oq R L K) (ha : ∀ k, RfS y a k → Oq k) (hq : RIn w' w.heap.size y a' c' L') (hu : Upto (RfS y a) wr w') (hn : ∀ k, RfS y a' k → RfS y a k ∨ wr.heap.size ≤ k) :
    ∃ Oq', Duo w w' x y O Oq' R L' K ∧ Upto (fun k => ¬ K k) wr w' := by
  have hpo := h.p.other hu (fun k hk ho => h.p.apart k (.inl (ha k hk)) ho) (fun k hk => h.qlo k (ha k hk))
  have hus := h.u.size
  refine ⟨RfS y a', ⟨⟨hpo.at_, hpo.u, hpo.lo, fun k hk ho => ?_, fun k hk => ?_⟩, fun k hk => Nat.lt_of_lt_of_le (h.olt k hk) hu.size, ⟨a', c', hq, fun _ h => h⟩, fun k hk => ?_, fun k hk e => ?_⟩, hu.mono (fun k _ e hK => h.qa k hK (ha k e))⟩
  · rcases hk with e | e
    · rcases hn k e with e | e
      · exact h.p.apart k (.inl (ha k e)) ho
      · have := h.olt k ho; omega
    · exact h.p.apart k (.inr e) ho
  · rcases hk with e | e
    · exact (hq.slt k e).2
    · exact hpo.kl k (.inr e)
  · rcases hn k hk with e | e
    · exact h.qlo k (ha k e)
    · omega
  · rcases hn k e with e | e
    · exact h.qa k hk (ha k e)
    · have := h.kl k hk; omega
end Duo
/-- What a method of the program's leaves; of the document's. -/
def DuP (w : World) (x y : Nat) (Oq K : Nat → Prop) (wr : World) (v : Value) (R' L : List Rw) (e : Ending) (w' : World) : Prop := e = .returned v ∧ ∃ O', Duo w w' x y O' Oq R' L K ∧ Upto (fun k => ¬ K k) wr w'
def DuQ (w : World) (x y : Nat) (O K : Nat → Prop) (wr : World) (v : Value) (R L' : List Rw) (e : Ending) (w' : World) : Prop := e = .returned v ∧ ∃ Oq', Duo w w' x y O Oq' R L' K ∧ Upto (fun k => ¬ K k) wr w'
section
variable {w wr : World} {x y : Nat} {O Oq K : Nat → Prop} {R L R' L' : List Rw}
theorem DuP.of {v : Value} {e : Ending} {w' : World} (h : Duo w wr x y O Oq R L K) (hp : PPost w x (fun k => Oq k ∨ K k) wr v R' e w') : DuP w x y Oq K wr v R' L e w' := by
  obtain ⟨rfl, O', h1, h2⟩ := hp
  obtain ⟨O2, h3⟩ := h.stepP h1 h2
  exact ⟨rfl, O2, h3, h2.mono (fun k _ hk e => hk (.inr e))⟩
theorem DuQ.of {a : Option Addr} {v : Value} {e : Ending} {w' : World} (h : Duo w wr x y O Oq R L K) (ha : ∀ k, RfS y a k → Oq k) (hp : RNewP w.heap.size y a L' wr v e w') : DuQ w x y O K wr v R L' e w' := by
  obtain ⟨rfl, a', c', h1, h2, h3⟩ := hp
  obtain ⟨Oq', h4, h5⟩ := h.stepQ ha h1 h2 h3
  exact ⟨rfl, Oq', h4, h5⟩
theorem bound (h : Duo w wr x y O Oq R (srt R) K) {n : Nat} (hg : Good n R) (hn : n ≤ 900) : (srt R).length < 1000 ∧ (∀ r ∈ srt R, r.held < 1000000) ∧ ∀ r ∈ srt R, r.live < 1000000 := by
  have := hg.len
  exact ⟨by rw [srt_len]; omega, fun r hr => by have := hg.each r (mem_srt.1 hr); omega, fun r hr => by have := hg.each r (mem_srt.1 hr); omega⟩
theorem dfix_p (h : Duo w wr x y O Oq R L K) (p ia ib oa oq : Nat) {E : Int} (hp : p < 256) (hia : ia < 4294967296) (hib : ib < 65536) (hoa : oa < 4294967296) (hoq : oq < 65536) {n : Nat} (hg : Good n R) (hn : n ≤ 900) (he : fx R p ia ib oa oq = (E, R')) :
    Calls Try.prog 13 #[.pointer (some ⟨x, 0, none⟩), .int .u8 p, ev ia ib, ev oa oq] wr (DuP w x y Oq K wr (.int .i64 E) R' L) := by
  obtain ⟨g1, g2, g3⟩ := hg.lt (by omega)
  refine (P_fix h.p p ia ib oa oq hp hia hib hoa hoq g1 g2).mono fun e w' hh => ?_
  rw [he] at hh
  exact DuP.of h hh
theorem dconf_p (h : Duo w wr x y O Oq R L K) (p a b : Nat) {E : Int} (hp : p < 256) (ha : a < 4294967296) (hb : b < 65536) {n : Nat} (hg : Good n R) (hn : n ≤ 900) (he : cf R p a b = (E, R')) :
    Calls Try.prog 18 #[.pointer (some ⟨x, 0, none⟩), .int .u8 p, ev a b] wr (DuP w x y Oq K wr (.int .i64 E) R' L) := by
  obtain ⟨g1, g2, g3⟩ := hg.lt (by omega)
  refine (P_conf h.p p a b hp ha hb g3).mono fun e w' hh => ?_
  rw [he] at hh
  exact DuP.of h hh
theorem ddrop_p (h : Duo w wr x y O Oq R L K) (p a b : Nat) {E : Int} (hp : p < 256) (ha : a < 4294967296) (hb : b < 65536) (he : dr R p a b = (E, R')) :
    Calls Try.prog 19 #[.pointer (some ⟨x, 0, none⟩), .int .u8 p, ev a b] wr (DuP w x y Oq K wr (.int .i64 E) R' L) := by
  refine (P_drop h.p p a b hp ha hb).mono fun e w' hh => ?_
  rw [he] at hh
  exact DuP.of h hh
theorem drel_p (h : Duo w wr x y O Oq R L K) (p a b : Nat) {E : Int} (hp : p < 256) (ha : a < 4294967296) (hb : b < 65536) (he : rl R p a b = (E, R')) :
    Calls Try.prog 20 #[.pointer (some ⟨x, 0, none⟩), .int .u8 p, ev a b] wr (DuP w x y Oq K wr (.int .i64 E) R' L) := by
  refine (P_rel h.p p a b hp ha hb).mono fun e w' hh => ?_
  rw [he] at hh
  exact DuP.of h hh
theorem dtake_p (h : Duo w wr x y O Oq R L K) (W : Ws) (hW : W.Ok) {A B : Nat} {E : Int} {n : Nat} (hg : Good n R) (hn : n ≤ 900) (he : tk R W = (A, B, E, R')) :
    Calls Try.prog 14 #[.pointer (some ⟨x, 0, none⟩), wv W] wr (DuP w x y Oq K wr (.tuple #[ev A B, .int .i64 E]) R' L) := by
  obtain ⟨g1, g2, g3⟩ := hg.lt (by omega)
  refine (P_take h.p W hW g1 g2).mono fun e w' hh => ?_
  rw [he] at hh
  exact DuP.of h hh
theorem dfix_q (h : Duo w wr x y O Oq R L K) (p ia ib oa oq : Nat) {E : Int} (hp : p < 256) (hia : ia < 4294967296) (hib : ib < 65536) (hoa : oa < 4294967296) (hoq : oq < 65536) (hm : L.length < 1000) (hh : ∀ r ∈ L, r.held < 1000000) (he : fxL L p ia ib oa oq = (E, L')) :
    Calls Try.prog 37 #[.pointer (some ⟨y, 0, none⟩), .int .u8 p, ev ia ib, ev oa oq] wr (DuQ w x y O K wr (.int .i64 E) R L') := by
  obtain ⟨a, c, h1, h2⟩ := h.q
  refine (Fix_r wr _ y a c L p ia ib oa oq h1 hp hia hib hoa hoq hm hh).mono fun e w' hh => ?_
  rw [he] at hh
  exact DuQ.of h h2 hh
theorem dconf_q (h : Duo w wr x y O Oq R L K) (p a b : Nat) {E : Int} (hh : ∀ r ∈ L, r.live < 1000000) (he : cfL L p a b = (E, L')) :
    Calls Try.prog 38 #[.pointer (some ⟨y, 0, none⟩), .int .u8 p, ev a b] wr (DuQ w x y O K wr (.int .i64 E) R L') := by
  obtain ⟨a', c, h1, h2⟩ := h.q
  refine (Confirm_r wr _ y a' c L p a b h1 hh).mono fun e w' hh => ?_
  rw [he] at hh
  exact DuQ.of h h2 hh
theorem ddrop_q (h : Duo w wr x y O Oq R L K) (p a b : Nat) {E : Int} (hh : ∀ r ∈ L, r.live < 1000000) (he : drL L p a b = (E, L')) :
    Calls Try.prog 39 #[.pointer (some ⟨y, 0, none⟩), .int .u8 p, ev a b] wr (DuQ w x y O K wr (.int .i64 E) R L') := by
  obtain ⟨a', c, h1, h2⟩ := h.q
  refine (Drop_r wr _ y a' c L p a b h1 hh).mono fun e w' hh => ?_
  rw [he] at hh
  exact DuQ.of h h2 hh
theorem drel_q (h : Duo w wr x y O Oq R L K) (p a b : Nat) {E : Int} (hh : ∀ r ∈ L, r.live < 1000000) (he : rlL L p a b = (E, L')) :
    Calls Try.prog 40 #[.pointer (some ⟨y, 0, none⟩), .int .u8 p, ev a b] wr (DuQ w x y O K wr (.int .i64 E) R L') := by
  obtain ⟨a', c, h1, h2⟩ := h.q
  refine (Release_r wr _ y a' c L p a b h1 hh).mono fun e w' hh => ?_
  rw [he] at hh
  exact DuQ.of h h2 hh
theorem dtake_q (h : Duo w wr x y O Oq R L K) (W : Ws) (hW : W.Ok) {A B : Nat} {E : Int} (hm : L.length < 1000) (hh : ∀ r ∈ L, r.held < 1000000) (he : tkL L W = (A, B, E, L')) :
    Calls Try.prog 41 #[.pointer (some ⟨y, 0, none⟩), wv W] wr (DuQ w x y O K wr (.tuple #[ev A B, .int .i64 E]) R L') := by
  obtain ⟨a', c, h1, h2⟩ := h.q
  refine (Take_r wr _ y a' c L W h1 hW hm hh).mono fun e w' hh => ?_
  rw [he] at hh
  exact DuQ.of h h2 hh
theorem dof_q (h : Duo w wr x y O Oq R L K) (p a b : Nat) {E : Int} (he : vX L (pI p a b) = E) : Calls Try.prog 26 #[.pointer (some ⟨y, 0, none⟩), .int .u8 p, ev a b] wr (Told (.int .i64 E) wr) := by
  obtain ⟨a', c, h1, h2⟩ := h.q
  rw [← he]
  exact Of_r wr _ y a' c L p a b h1
theorem downer_q (h : Duo w wr x y O Oq R L K) (p a b : Nat) {E : Int} (he : vX L (pO p a b) = E) : Calls Try.prog 27 #[.pointer (some ⟨y, 0, none⟩), .int .u8 p, ev a b] wr (Told (.int .i64 E) wr) := by
  obtain ⟨a', c, h1, h2⟩ := h.q
  rw [← he]
  exact Owner_r wr _ y a' c L p a b h1
end
end Go.Proofs.Ytfiblchdfacdiaa
