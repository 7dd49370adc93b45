/- Ports that a call has made itself: what each method leaves, told by their rows. -/
import Derived.Test.YtfiblchdfacdiaaWalkE
import Derived.Test.YtfiblchdfacdiaaWalkF
import Derived.Test.YtfiblchdfacdiaaWalkG
import Derived.Test.YtfiblchdfacdiaaPick
namespace Go.Proofs.Ytfiblchdfacdiaa
open Go Go.RowKit Go.Deep Go.Maps

/-! ### Rows alone -/
def gO (R : List Rw) (p a b : Nat) : Option Rw := R.find? fun r => r.p == p && r.oa == a && r.ob == b
def gI (R : List Rw) (p a b : Nat) : Option Rw := R.find? fun r => r.p == p && r.ia == a && r.ib == b
def updR (R : List Rw) (p a b : Nat) (f : Rw → Rw) : List Rw := R.map fun s => if s.p = p ∧ s.oa = a ∧ s.ob = b then f s else s
def delR (R : List Rw) (p a b : Nat) : List Rw := R.filter fun s => !decide (s.p = p ∧ s.oa = a ∧ s.ob = b)
/-- Take: the endpoint, the error, the rows. -/
def tk (R : List Rw) (W : Ws) : Nat × Nat × Int × List Rw :=
  if 1 ≤ W.fr ∧ W.fr ≤ W.tu then
    match gI R W.p W.ia W.ib with
    | some r => if r.oa = W.ip ∧ W.fr ≤ r.ob ∧ r.ob ≤ W.tu then (r.oa, r.ob, 0, updR R W.p r.oa r.ob hold) else (0, 0, 7, R)
    | none => match pickR R W with
      | some q => (W.ip, q, 0, R ++ [newR W.p W.ip q W.ia W.ib])
      | none => (0, 0, 8, R)
  else (0, 0, 2, R)
def fx (R : List Rw) (p ia ib oa ob : Nat) : Int × List Rw :=
  match gI R p ia ib with
  | some r => if r.oa = oa ∧ r.ob = ob then (0, updR R p oa ob hold) else (7, R)
  | none => match gO R p oa ob with
    | some _ => (10, R)
    | none => (0, R ++ [newR p oa ob ia ib])
def cf (R : List Rw) (p a b : Nat) : Int × List Rw :=
  match gO R p a b with
  | none => (6, R)
  | some r => if r.held = 0 then (6, R) else (0, updR R p a b conf)
def dr (R : List Rw) (p a b : Nat) : Int × List Rw :=
  match gO R p a b with
  | none => (6, R)
  | some r => if r.held = 0 then (6, R) else if r.live + (r.held - 1) = 0 then (0, delR R p a b) else (0, updR R p a b drp)
def rl (R : List Rw) (p a b : Nat) : Int × List Rw :=
  match gO R p a b with
  | none => (6, R)
  | some r => if r.live = 0 then (6, R) else if (r.live - 1) + r.held = 0 then (0, delR R p a b) else (0, updR R p a b rels)

theorem fO_map (T : List (Rw × Nat)) (p a b : Nat) : (fO T p a b).map (·.1) = gO (T.map (·.1)) p a b := by
  unfold fO gO
  rw [List.find?_map]; rfl
theorem fI_map (T : List (Rw × Nat)) (p a b : Nat) : (fI T p a b).map (·.1) = gI (T.map (·.1)) p a b := by
  unfold fI gI
  rw [List.find?_map]; rfl
theorem PsAt.one {w : World} {x rb ob : Nat} {T : List (Rw × Nat)} (h : PsAt w x rb ob T) {p a b : Nat} {r s : Rw × Nat} (hf : fO T p a b = some r) (hs : s ∈ T) (e : s.1.p = p ∧ s.1.oa = a ∧ s.1.ob = b) : s = r := by
  obtain ⟨rfl, rfl, rfl⟩ := e
  have := h.fO_of_mem hs
  rw [hf] at this
  exact (Option.some.inj this).symm
theorem PsAt.updR {w : World} {x rb ob : Nat} {T : List (Rw × Nat)} (h : PsAt w x rb ob T) {p a b : Nat} {r : Rw × Nat} (hf : fO T p a b = some r) (f : Rw → Rw) :
    (updT T r.2 f).map (·.1) = Ytfiblchdfacdiaa.updR (T.map (·.1)) p a b f := by
  unfold updT Ytfiblchdfacdiaa.updR
  rw [List.map_map, List.map_map]
  refine List.map_congr_left fun s hs => ?_
  obtain ⟨hr, e1, e2, e3⟩ := PsAt.fO_mem hf
  simp only [Function.comp]
  by_cases e : s.2 = r.2
  · have := h.blk_inj hr hs e
    subst this
    rw [if_pos rfl, if_pos ⟨e1, e2, e3⟩]
  · rw [if_neg e, if_neg (fun e' => e (by rw [h.one hf hs e']))]
theorem PsAt.delR {w : World} {x rb ob : Nat} {T1 T2 : List (Rw × Nat)} {r : Rw × Nat} (h : PsAt w x rb ob (T1 ++ r :: T2)) {p a b : Nat} (hf : fO (T1 ++ r :: T2) p a b = some r) :
    (T1 ++ T2).map (·.1) = Ytfiblchdfacdiaa.delR ((T1 ++ r :: T2).map (·.1)) p a b := by
  obtain ⟨hr, e1, e2, e3⟩ := PsAt.fO_mem hf
  have hn := h.nodup
  rw [List.map_append, List.map_cons, List.nodup_append] at hn
  obtain ⟨_, h2, h3⟩ := hn
  rw [List.nodup_cons] at h2
  unfold Ytfiblchdfacdiaa.delR
  rw [List.map_append, List.map_append, List.filter_append, List.map_cons, List.filter_cons, decide_eq_true (⟨e1, e2, e3⟩ : r.1.p = p ∧ r.1.oa = a ∧ r.1.ob = b)]
  rw [List.filter_eq_self.2, List.filter_eq_self.2]
  · simp
  · intro s hs
    obtain ⟨s', hs', rfl⟩ := List.mem_map.1 hs
    have : ¬ (s'.1.p = p ∧ s'.1.oa = a ∧ s'.1.ob = b) := fun e => by
      have := h.one hf (by simp [hs']) e
      exact h2.1 (by rw [← this]; exact List.mem_map_of_mem (f := (·.2)) hs')
    simp [this]
  · intro s hs
    obtain ⟨s', hs', rfl⟩ := List.mem_map.1 hs
    have : ¬ (s'.1.p = p ∧ s'.1.oa = a ∧ s'.1.ob = b) := fun e => by
      have := h.one hf (by simp [hs']) e
      exact h3 s'.2 (List.mem_map_of_mem (f := (·.2)) hs') r.2 List.mem_cons_self (by rw [this])
    simp [this]

/-! ### In memory -/
/-- Ports at x that were made since w, of the blocks in O; those in K are others'. -/
structure PsD (w wr : World) (x : Nat) (O : Nat → Prop) (R : List Rw) (K : Nat → Prop) : Prop where
  at_ : ∃ rb ob T, PsAt wr x rb ob T ∧ T.map (·.1) = R ∧ ∀ k, PsS x rb ob T k → O k
  u : Upto NoS w wr
  lo : ∀ k, O k → w.heap.size ≤ k
  apart : ∀ k, K k → ¬ O k
  kl : ∀ k, K k → k < wr.heap.size
/-- What a method leaves. -/
def PPost (w : World) (x : Nat) (K : Nat → Prop) (wr : World) (v : Value) (R' : List Rw) (e : Ending) (w' : World) : Prop :=
  e = .returned v ∧ ∃ O', PsD w w' x O' R' K ∧ Upto (fun k => ¬ K k) wr w'
namespace PsD
variable {w wr w' : World} {x : Nat} {O K K' : Nat → Prop} {R : List Rw}
theorem quiet (h : PsD w wr x O R K) (hu : Upto NoS wr w') : PsD w w' x O R K := by
  obtain ⟨rb, ob, T, h1, h2, h3⟩ := h.at_
  exact ⟨⟨rb, ob, T, h1.upto hu, h2, h3⟩, h.u.trans hu, h.lo, h.apart, fun k hk => Nat.lt_of_lt_of_le (h.kl k hk) hu.size⟩
theorem mono (h : PsD w wr x O R K) (hK : ∀ k, K' k → K k) : PsD w wr x O R K' := ⟨h.at_, h.u, h.lo, fun k hk => h.apart k (hK k hk), fun k hk => h.kl k (hK k hk)⟩
end PsD
theorem PsAt.slt {w : World} {x rb ob : Nat} {T : List (Rw × Nat)} (h : PsAt w x rb ob T) : ∀ k, PsS x rb ob T k → k < w.heap.size := by
  rintro k (rfl | rfl | rfl | ⟨r, hr, rfl⟩)
  · exact h.lt
  · exact h.rows.lt
  · exact h.of_.lt
  · exact (h.blk r hr).lt
namespace PsD
variable {w wr w' : World} {x : Nat} {O K K' : Nat → Prop} {R : List Rw}
/-- Its blocks, and no others. -/
theorem tight (h : PsD w wr x O R K) : ∃ O', PsD w wr x O' R K ∧ ∀ k, O' k → k < wr.heap.size := by
  obtain ⟨rb, ob, T, h1, h2, h3⟩ := h.at_
  exact ⟨PsS x rb ob T, ⟨⟨rb, ob, T, h1, h2, fun _ h => h⟩, h.u, fun k hk => h.lo k (h3 k hk), fun k hk ho => h.apart k hk (h3 k ho), h.kl⟩, h1.slt⟩
/-- What is new is others'. -/
theorem add (h : PsD w wr x O R K) (hu : Upto NoS wr w') (hK : ∀ k, K' k → K k ∨ (wr.heap.size ≤ k ∧ k < w'.heap.size)) : ∃ O', PsD w w' x O' R K' := by
  obtain ⟨O', h', hl⟩ := h.tight
  have h1 := h'.quiet hu
  refine ⟨O', ⟨h1.at_, h1.u, h1.lo, fun k hk hO => ?_, fun k hk => ?_⟩⟩
  · rcases hK k hk with e | ⟨e, _⟩
    · exact h'.apart k e hO
    · have := hl k hO; omega
  · rcases hK k hk with e | ⟨_, e⟩
    · exact h1.kl k e
    · exact e
/-- Other blocks are written. -/
theorem other {S : Nat → Prop} (h : PsD w wr x O R K) (hu : Upto S wr w') (hS : ∀ k, S k → ¬ O k) (hS' : ∀ k, S k → w.heap.size ≤ k) : PsD w w' x O R K := by
  obtain ⟨rb, ob, T, h1, h2, h3⟩ := h.at_
  exact ⟨⟨rb, ob, T, h1.gen hu (fun k hk hs => hS k hk (h3 k hs)), h2, h3⟩, h.u.trans' hu (fun k hk e => by have := hS' k e; omega), h.lo, h.apart, fun k hk => Nat.lt_of_lt_of_le (h.kl k hk) hu.size⟩
theorem step {rb ob : Nat} {T T' : List (Rw × Nat)} {R' : List Rw} {S : Nat → Prop} (h : PsD w wr x O R K) (hO : ∀ k, PsS x rb ob T k → O k) (h' : PsAt w' x rb ob T') (hR : T'.map (·.1) = R') (hu : Upto S wr w') (hS : ∀ k, S k → PsS x rb ob T k)
    (hn : ∀ s ∈ T', (∃ r ∈ T, r.2 = s.2) ∨ wr.heap.size ≤ s.2) : ∃ O', PsD w w' x O' R' K ∧ Upto (fun k => ¬ K k) wr w' := by
  have hin : ∀ k, PsS x rb ob T' k → O k ∨ wr.heap.size ≤ k := by
    rintro k (e | e | e | ⟨s, hs, rfl⟩)
    · exact .inl (hO k (.inl e))
    · exact .inl (hO k (.inr (.inl e)))
    · exact .inl (hO k (.inr (.inr (.inl e))))
    · exact (hn s hs).imp (fun ⟨r, hr, e⟩ => hO _ (.inr (.inr (.inr ⟨r, hr, e⟩)))) id
  have hus := h.u.size
  refine ⟨PsS x rb ob T', ⟨⟨rb, ob, T', h', hR, fun _ h => h⟩, h.u.trans' hu (fun k hk e => by have := h.lo k (hO k (hS k e)); omega), fun k hk => ?_, fun k hk e => ?_, fun k hk => Nat.lt_of_lt_of_le (h.kl k hk) hu.size⟩, hu.mono (fun k _ e hK => h.apart k hK (hO k (hS k e)))⟩
  · rcases hin k hk with e | e
    · exact h.lo k e
    · omega
  · rcases hin k e with e | e
    · exact h.apart k hk e
    · have := h.kl k hk; omega
end PsD
section
variable {w wr : World} {x : Nat} {O K : Nat → Prop} {R : List Rw}
theorem PPost.of_told {v : Value} (h : PsD w wr x O R K) {e : Ending} {w' : World} (ht : Told v wr e w') : PPost w x K wr v R e w' :=
  ⟨ht.1, O, h.quiet ht.2, ht.2.mono (fun _ _ h => h.elim)⟩
theorem updT_in {T : List (Rw × Nat)} {k : Nat} {f : Rw → Rw} : ∀ s ∈ updT T k f, (∃ r ∈ T, r.2 = s.2) ∨ wr.heap.size ≤ s.2 := fun s hs => by
  obtain ⟨s0, h0, e⟩ := updT_blk hs
  exact .inl ⟨s0, h0, e.symm⟩
theorem isS {rb ob : Nat} {T : List (Rw × Nat)} {r : Rw × Nat} (hr : r ∈ T) : ∀ k, k = r.2 → PsS x rb ob T k := fun _ e => .inr (.inr (.inr ⟨r, hr, e.symm⟩))

theorem P_take (h : PsD w wr x O R K) (W : Ws) (hW : W.Ok) (hl : R.length < 1000000) (hh : ∀ r ∈ R, r.held < 1000000) :
    Calls Try.prog 14 #[.pointer (some ⟨x, 0, none⟩), wv W] wr (PPost w x K wr (.tuple #[ev (tk R W).1 (tk R W).2.1, .int .i64 (tk R W).2.2.1]) (tk R W).2.2.2) := by
  obtain ⟨rb, ob, T, h1, rfl, h3⟩ := h.at_
  have hlT : T.length < 1000000 := by simpa using hl
  unfold tk
  by_cases hm : 1 ≤ W.fr ∧ W.fr ≤ W.tu
  · rw [if_pos hm]
    cases hI : fI T W.p W.ia W.ib with
    | some r =>
      have hg := fI_map T W.p W.ia W.ib
      rw [hI] at hg
      rw [← hg]
      simp only [Option.map_some]
      obtain ⟨hr, e1, _, _⟩ := PsAt.fI_mem hI
      by_cases hf : r.1.oa = W.ip ∧ W.fr ≤ r.1.ob ∧ r.1.ob ≤ W.tu
      · rw [if_pos hf]
        refine (Take_held wr x rb ob T W r h1 hW hm hI hf.1 hf.2.1 hf.2.2 (hh _ (List.mem_map_of_mem hr))).mono ?_
        rintro e w' ⟨rfl, h', hu⟩
        have hO := h1.fO_of_mem hr
        rw [e1] at hO
        exact ⟨rfl, h.step h3 h' (h1.updR hO hold) hu (isS hr) updT_in⟩
      · rw [if_neg hf]
        by_cases ha : r.1.oa = W.ip
        · by_cases hb : W.fr ≤ r.1.ob
          · exact (Take_have_c wr x rb ob T W r h1 hW hm hI ha hb (by have : ¬ r.1.ob ≤ W.tu := fun e => hf ⟨ha, hb, e⟩; omega)).mono fun _ _ ht => PPost.of_told h ht
          · exact (Take_have_b wr x rb ob T W r h1 hW hm hI ha (by omega)).mono fun _ _ ht => PPost.of_told h ht
        · exact (Take_have_a wr x rb ob T W r h1 hW hm hI ha).mono fun _ _ ht => PPost.of_told h ht
    | none =>
      have hg := fI_map T W.p W.ia W.ib
      rw [hI] at hg
      rw [← hg]
      simp only [Option.map_none]
      cases hq : pickR (T.map (·.1)) W with
      | some q =>
        simp only
        refine (Take_pick wr x rb ob T W q h1 hW hm hI hlT hq).mono ?_
        rintro e w' ⟨rfl, k, hk, h', hu⟩
        refine ⟨rfl, h.step h3 h' (by simp) hu (fun k e => e.elim (fun e => .inr (.inl e)) (fun e => .inr (.inr (.inl e)))) (fun s hs => ?_)⟩
        rcases List.mem_append.1 hs with hs | hs
        · exact .inl ⟨s, hs, rfl⟩
        · simp at hs; subst hs; exact .inr hk
      | none =>
        simp only
        refine (Take_full wr x rb ob T W h1 hW hm hI hlT hq).mono ?_
        rintro e w' ⟨rfl, h', hu⟩
        exact PPost.of_told h ⟨rfl, hu⟩
  · rw [if_neg hm]
    exact (Take_arg wr x rb ob T W h1 hm).mono fun _ _ ht => PPost.of_told h ht
theorem P_fix (h : PsD w wr x O R K) (p ia ib oa oq : Nat) (hp : p < 256) (hia : ia < 4294967296) (hib : ib < 65536) (hoa : oa < 4294967296) (hoq : oq < 65536) (hl : R.length < 1000000) (hh : ∀ r ∈ R, r.held < 1000000) :
    Calls Try.prog 13 #[.pointer (some ⟨x, 0, none⟩), .int .u8 p, ev ia ib, ev oa oq] wr (PPost w x K wr (.int .i64 (fx R p ia ib oa oq).1) (fx R p ia ib oa oq).2) := by
  obtain ⟨rb, ob, T, h1, rfl, h3⟩ := h.at_
  have hlT : T.length < 1000000 := by simpa using hl
  unfold fx
  cases hI : fI T p ia ib with
  | some r =>
    have hg := fI_map T p ia ib
    rw [hI] at hg
    rw [← hg]
    simp only [Option.map_some]
    obtain ⟨hr, e1, _, _⟩ := PsAt.fI_mem hI
    by_cases hf : r.1.oa = oa ∧ r.1.ob = oq
    · rw [if_pos hf]
      obtain ⟨rfl, rfl⟩ := hf
      refine (Fix_held wr x rb ob T p ia ib r h1 hp hia hib hI (hh _ (List.mem_map_of_mem hr))).mono ?_
      rintro e w' ⟨rfl, h', hu⟩
      have hO := h1.fO_of_mem hr
      rw [e1] at hO
      exact ⟨rfl, h.step h3 h' (h1.updR hO hold) hu (isS hr) updT_in⟩
    · rw [if_neg hf]
      cases hO : fO T p oa oq with
      | some s => exact (Fix_have_some wr x rb ob T p ia ib oa oq r h1 hp hia hib hoa hoq hI hf s hO).mono fun _ _ ht => PPost.of_told h ht
      | none => exact (Fix_have_no wr x rb ob T p ia ib oa oq r h1 hp hia hib hoa hoq hI hf hO).mono fun _ _ ht => PPost.of_told h ht
  | none =>
    have hg := fI_map T p ia ib
    rw [hI] at hg
    rw [← hg]
    simp only [Option.map_none]
    have hg2 := fO_map T p oa oq
    cases hO : fO T p oa oq with
    | some s =>
      rw [hO] at hg2
      rw [← hg2]
      exact (Fix_busy wr x rb ob T p ia ib oa oq s h1 hp hia hib hoa hoq hI hO).mono fun _ _ ht => PPost.of_told h ht
    | none =>
      rw [hO] at hg2
      rw [← hg2]
      refine (Fix_new wr x rb ob T p ia ib oa oq h1 hp hia hib hoa hoq hI hO hlT).mono ?_
      rintro e w' ⟨rfl, k, hk, h', hu⟩
      refine ⟨rfl, h.step h3 h' (by simp) hu (fun k e => e.elim (fun e => .inr (.inl e)) (fun e => .inr (.inr (.inl e)))) (fun s hs => ?_)⟩
      rcases List.mem_append.1 hs with hs | hs
      · exact .inl ⟨s, hs, rfl⟩
      · simp at hs; subst hs; exact .inr hk
theorem P_conf (h : PsD w wr x O R K) (p a b : Nat) (hp : p < 256) (ha : a < 4294967296) (hb : b < 65536) (hh : ∀ r ∈ R, r.live < 1000000) :
    Calls Try.prog 18 #[.pointer (some ⟨x, 0, none⟩), .int .u8 p, ev a b] wr (PPost w x K wr (.int .i64 (cf R p a b).1) (cf R p a b).2) := by
  obtain ⟨rb, ob, T, h1, rfl, h3⟩ := h.at_
  have hg := fO_map T p a b
  unfold cf
  cases hO : fO T p a b with
  | none =>
    rw [hO] at hg
    rw [← hg]
    exact (Confirm_no wr x rb ob T p a b h1 hp ha hb hO).mono fun _ _ ht => PPost.of_told h ht
  | some r =>
    rw [hO] at hg
    rw [← hg]
    simp only [Option.map_some]
    obtain ⟨hr, _⟩ := PsAt.fO_mem hO
    by_cases h0 : r.1.held = 0
    · rw [if_pos h0]
      exact (Confirm_zero wr x rb ob T p a b r h1 hp ha hb hO h0).mono fun _ _ ht => PPost.of_told h ht
    · rw [if_neg h0]
      refine (Confirm_ok wr x rb ob T p a b r h1 hp ha hb hO (by omega) (hh _ (List.mem_map_of_mem hr))).mono ?_
      rintro e w' ⟨rfl, h', hu⟩
      exact ⟨rfl, h.step h3 h' (h1.updR hO conf) hu (isS hr) updT_in⟩
theorem P_drop (h : PsD w wr x O R K) (p a b : Nat) (hp : p < 256) (ha : a < 4294967296) (hb : b < 65536) :
    Calls Try.prog 19 #[.pointer (some ⟨x, 0, none⟩), .int .u8 p, ev a b] wr (PPost w x K wr (.int .i64 (dr R p a b).1) (dr R p a b).2) := by
  obtain ⟨rb, ob, T, h1, rfl, h3⟩ := h.at_
  have hg := fO_map T p a b
  unfold dr
  cases hO : fO T p a b with
  | none =>
    rw [hO] at hg
    rw [← hg]
    exact (Drop_no wr x rb ob T p a b h1 hp ha hb hO).mono fun _ _ ht => PPost.of_told h ht
  | some r =>
    rw [hO] at hg
    rw [← hg]
    simp only [Option.map_some]
    obtain ⟨hr, _⟩ := PsAt.fO_mem hO
    by_cases h0 : r.1.held = 0
    · rw [if_pos h0]
      exact (Drop_zero wr x rb ob T p a b r h1 hp ha hb hO h0).mono fun _ _ ht => PPost.of_told h ht
    · rw [if_neg h0]
      by_cases hc : r.1.live + (r.1.held - 1) = 0
      · rw [if_pos hc]
        have hc1 : (drp r.1).live + (drp r.1).held = 0 := hc
        refine (Drop_go wr x rb ob T p a b r h1 hp ha hb hO (by omega) (by omega) (by omega)).mono ?_
        rintro e w' ⟨rfl, ⟨T1, T2, rfl, h'⟩, hu⟩
        refine ⟨rfl, h.step h3 h' (h1.delR hO) hu (fun k e => ?_) (fun s hs => .inl ⟨s, ?_, rfl⟩)⟩
        · rcases e with e | e | e
          · exact isS hr k e
          · exact .inr (.inl e)
          · exact .inr (.inr (.inl e))
        · rcases List.mem_append.1 hs with hs | hs
          · exact List.mem_append_left _ hs
          · exact List.mem_append_right _ (List.mem_cons_of_mem _ hs)
      · rw [if_neg hc]
        have hc1 : ¬ (drp r.1).live + (drp r.1).held = 0 := hc
        refine (Drop_keep wr x rb ob T p a b r h1 hp ha hb hO (by omega) (by omega)).mono ?_
        rintro e w' ⟨rfl, h', hu⟩
        exact ⟨rfl, h.step h3 h' (h1.updR hO drp) hu (isS hr) updT_in⟩
theorem P_rel (h : PsD w wr x O R K) (p a b : Nat) (hp : p < 256) (ha : a < 4294967296) (hb : b < 65536) :
    Calls Try.prog 20 #[.pointer (some ⟨x, 0, none⟩), .int .u8 p, ev a b] wr (PPost w x K wr (.int .i64 (rl R p a b).1) (rl R p a b).2) := by
  obtain ⟨rb, ob, T, h1, rfl, h3⟩ := h.at_
  have hg := fO_map T p a b
  unfold rl
  cases hO : fO T p a b with
  | none =>
    rw [hO] at hg
    rw [← hg]
    exact (Release_no wr x rb ob T p a b h1 hp ha hb hO).mono fun _ _ ht => PPost.of_told h ht
  | some r =>
    rw [hO] at hg
    rw [← hg]
    simp only [Option.map_some]
    obtain ⟨hr, _⟩ := PsAt.fO_mem hO
    by_cases h0 : r.1.live = 0
    · rw [if_pos h0]
      exact (Release_zero wr x rb ob T p a b r h1 hp ha hb hO h0).mono fun _ _ ht => PPost.of_told h ht
    · rw [if_neg h0]
      by_cases hc : (r.1.live - 1) + r.1.held = 0
      · rw [if_pos hc]
        have hc1 : (rels r.1).live + (rels r.1).held = 0 := hc
        refine (Release_go wr x rb ob T p a b r h1 hp ha hb hO (by omega) (by omega) (by omega)).mono ?_
        rintro e w' ⟨rfl, ⟨T1, T2, rfl, h'⟩, hu⟩
        refine ⟨rfl, h.step h3 h' (h1.delR hO) hu (fun k e => ?_) (fun s hs => .inl ⟨s, ?_, rfl⟩)⟩
        · rcases e with e | e | e
          · exact isS hr k e
          · exact .inr (.inl e)
          · exact .inr (.inr (.inl e))
        · rcases List.mem_append.1 hs with hs | hs
          · exact List.mem_append_left _ hs
          · exact List.mem_append_right _ (List.mem_cons_of_mem _ hs)
      · rw [if_neg hc]
        have hc1 : ¬ (rels r.1).live + (rels r.1).held = 0 := hc
        refine (Release_keep wr x rb ob T p a b r h1 hp ha hb hO (by omega) (by omega)).mono ?_
        rintro e w' ⟨rfl, h', hu⟩
        exact ⟨rfl, h.step h3 h' (h1.updR hO rels) hu (isS hr) updT_in⟩
/-- What List leaves. -/
theorem P_list (h : PsD w wr x O R K) (hl : R.length ≤ 1000000) : Calls Try.prog 21 #[.pointer (some ⟨x, 0, none⟩)] wr (ListPost R wr) := by
  obtain ⟨rb, ob, T, h1, rfl, h3⟩ := h.at_
  exact List_any wr x rb ob T h1 (by simpa using hl)
theorem P_count (h : PsD w wr x O R K) : Calls Try.prog 28 #[.pointer (some ⟨x, 0, none⟩)] wr fun e w' => e = .returned (.int .i64 (R.length : Nat)) ∧ wr = w' := by
  obtain ⟨rb, ob, T, h1, rfl, h3⟩ := h.at_
  rw [List.length_map]
  exact Count_any wr x rb ob T h1
end
theorem P_new (w wr : World) (hu : Upto NoS w wr) (K : Nat → Prop) (hK : ∀ k, K k → k < wr.heap.size) : Calls Try.prog 9 #[] wr fun e w' => ∃ x O, e = .returned (.pointer (some ⟨x, 0, none⟩)) ∧ PsD w w' x O [] K ∧ Upto NoS wr w' := by
  refine (New_any wr).mono ?_
  rintro e w' ⟨x, rb, ob, rfl, h', hu', h1, h2, h3⟩
  have hs := hu.size
  have hin : ∀ k, PsS x rb ob [] k → wr.heap.size ≤ k := by
    rintro k (e | e | e | ⟨r, hr, _⟩)
    · omega
    · omega
    · omega
    · cases hr
  exact ⟨x, PsS x rb ob [], rfl, ⟨⟨rb, ob, [], h', rfl, fun _ h => h⟩, hu.trans hu', fun k hk => Nat.le_trans hs (hin k hk), fun k hk e => by have := hK k hk; have := hin k e; omega, fun k hk => Nat.lt_of_lt_of_le (hK k hk) hu'.size⟩, hu'⟩
end Go.Proofs.Ytfiblchdfacdiaa
