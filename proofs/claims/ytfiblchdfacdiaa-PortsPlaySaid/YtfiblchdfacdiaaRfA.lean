/- The document's ports in memory: their rows, in a row of its own. -/
import Derived.Test.YtfiblchdfacdiaaAhead
import Derived.Test.YtfiblchdfacdiaaEqs
import Derived.Test.YtfiblchdfacdiaaRefM
import Derived.Laws.AppendOwnNone
namespace Go.Proofs.Ytfiblchdfacdiaa
open Go Go.RowKit Go.Deep Go.Maps

theorem wcl_take (L : List Rw) (k : Nat) : wcl (L.take k) = (wcl L).take (k * 7) := by
  induction L generalizing k with
  | nil => simp [wcl]
  | cons p l ih =>
    cases k with
    | zero => simp [wcl]
    | succ k =>
      have := ih k
      rw [show (k + 1) * 7 = k * 7 + 1 + 1 + 1 + 1 + 1 + 1 + 1 from by omega]
      simpa [wcl] using this
theorem wcl_drop (L : List Rw) (k : Nat) : wcl (L.drop k) = (wcl L).drop (k * 7) := by
  induction L generalizing k with
  | nil => simp [wcl]
  | cons p l ih =>
    cases k with
    | zero => simp [wcl]
    | succ k =>
      have := ih k
      rw [show (k + 1) * 7 = k * 7 + 1 + 1 + 1 + 1 + 1 + 1 + 1 from by omega]
      simpa [wcl] using this
/-- A row that is read: from wherever in its block. -/
structure RAt (w : World) (a : Option Addr) (c : Nat) (L : List Rw) : Prop where
  le : L.length ≤ c
  cap : c ≤ maxLen
  at_ : (a = none ∧ c = 0) ∨ ∃ q o, a = some ⟨q, o, none⟩ ∧ q < w.heap.size ∧ ∀ j u, (wcl L)[j]? = some u → w.cell? ⟨q, o + j, none⟩ = some u
/-- Its block. -/
def LO (a : Option Addr) (k : Nat) : Prop := ∃ o, a = some ⟨k, o, none⟩
namespace RAt
variable {w w' : World} {a : Option Addr} {c : Nat} {L : List Rw}
theorem gen {T : Nat → Prop} (h : RAt w a c L) (hu : Upto T w w') (hT : ∀ k, T k → ¬ LO a k) : RAt w' a c L := by
  refine ⟨h.le, h.cap, ?_⟩
  rcases h.at_ with e | ⟨q, o, ha, hq, hc⟩
  · exact .inl e
  · exact .inr ⟨q, o, ha, Nat.lt_of_lt_of_le hq hu.size, fun j u hj => hu.keep (hc j u hj) (fun ht => hT q ht ⟨o, ha⟩)⟩
theorem take (h : RAt w a c L) {k : Nat} (hk : k ≤ L.length) : RAt w a c (L.take k) := by
  have := h.le
  refine ⟨by rw [List.length_take]; omega, h.cap, ?_⟩
  rcases h.at_ with e | ⟨q, o, ha, hq, hc⟩
  · exact .inl e
  · refine .inr ⟨q, o, ha, hq, fun j u hj => hc j u ?_⟩
    rw [wcl_take, List.getElem?_take] at hj
    split at hj
    · exact hj
    · cases hj
theorem own {base n : Nat} (h : w.ownsRow base 83 7 (.slice a n c) L.length (wcl L)) : RAt w a c L := by
  rcases h.2 with ⟨hv, h0⟩ | ⟨g, cap, cur, hv, hb, hg, h1, h2, _⟩
  · cases hv
    exact ⟨by omega, by omega, .inl ⟨rfl, rfl⟩⟩
  · cases hv
    refine ⟨h1, h2, .inr ⟨g, 0, rfl, ?_, fun j u hj => ?_⟩⟩
    · rcases Nat.lt_or_ge g w.heap.size with hlt | hge
      · exact hlt
      · rw [Array.getElem?_eq_none hge] at hg; cases hg
    · have := h.cells (g := g) rfl j u hj
      rwa [Addr.add_lit] at this
end RAt
theorem RAt.drop {w : World} {q o c : Nat} {L : List Rw} (h : RAt w (some ⟨q, o, none⟩) c L) {k : Nat} (hk : k ≤ L.length) : RAt w (some ⟨q, o + k * 7, none⟩) (c - k) (L.drop k) := by
  have := h.le
  have := h.cap
  refine ⟨by rw [List.length_drop]; omega, by omega, ?_⟩
  rcases h.at_ with ⟨e, _⟩ | ⟨q', o', ha, hq, hc⟩
  · cases e
  · simp only [Option.some.injEq, Addr.mk.injEq, and_true] at ha
    obtain ⟨rfl, rfl⟩ := ha
    refine .inr ⟨q, o + k * 7, rfl, hq, fun j u hj => ?_⟩
    rw [wcl_drop, List.getElem?_drop] at hj
    have := hc _ _ hj
    rwa [← Nat.add_assoc] at this
theorem RAt.drop' {w : World} {q o c : Nat} {L : List Rw} (h : RAt w (some ⟨q, o, none⟩) c L) {k : Nat} (hk : k ≤ L.length) : RAt w (if c = k then some ⟨q, o, none⟩ else some ⟨q, o + k * 7, none⟩) (c - k) (L.drop k) := by
  have hd := h.drop hk
  have hle := h.le
  by_cases hc : c = k
  · rw [if_pos hc]
    have hl : L.drop k = [] := List.eq_nil_of_length_eq_zero (by rw [List.length_drop]; omega)
    rw [hl]
    refine ⟨by simp, by simp [hc, maxLen], ?_⟩
    rcases h.at_ with ⟨e, _⟩ | ⟨q', o', ha, hq, _⟩
    · cases e
    · cases ha
      exact .inr ⟨q, o, rfl, hq, fun j u hj => by simp [wcl] at hj⟩
  · rw [if_neg hc]
    exact hd

/-- What a source holds that is appended. -/
def Src (w : World) (v : Value) (m size : Nat) (news : List Value) : Prop :=
  news.length = m * size ∧ ∃ a c, v = .slice a m c ∧ ((a = none ∧ m = 0 ∧ c = 0) ∨ ∃ ad, a = some ad ∧ ∀ j u, news[j]? = some u → w.cell? (ad.add j) = some u)
theorem RAt.src {w : World} {a : Option Addr} {c : Nat} {L : List Rw} (h : RAt w a c L) : Src w (.slice a L.length c) L.length 7 (wcl L) := by
  refine ⟨wcl_length L, a, c, rfl, ?_⟩
  have hle := h.le
  rcases h.at_ with ⟨e, e2⟩ | ⟨q, o, ha, hq, hc⟩
  · exact .inl ⟨e, by omega, e2⟩
  · exact .inr ⟨_, ha, fun j u hj => by rw [Addr.add_lit]; exact hc j u hj⟩
section
variable {P : Program} (w : World)
theorem run_append_src (base : Nat) (t ty e : TypeId) (i : TypeInfo) (z : Value) (size bytes : Nat) (ht : P.underlying t = some (.slice e)) (hi : P.info? e = some i) (hz : i.zero = some z)
    (hsize : i.size = size) (hby : i.bytes = bytes) (hzs : z.cells.size = size) (hsz : 0 < size)
    (v : Value) (n : Nat) (xs : List Value) (hown : w.ownsRow base e size v n xs) (sv : Value) (m : Nat) (news : List Value) (hs : Src w sv m size news) (h1 : ∀ u ∈ news, u.oneCell' = true)
    (h63 : n + m ≤ maxLen) (hbytes : (n + m) * bytes ≤ 140737488355328) (hbase : base ≤ w.heap.size) :
    ∃ v' w', (Builtin.append_ #[t, t] ty #[v, sv]).run P w = .ok v' w' ∧ w'.ownsRow base e size v' (n + m) (xs ++ news) ∧ w.grownBy w' v.ownBlock ∧ (v'.ownBlock = v.ownBlock ∨ v'.ownBlock = some w.heap.size) := by
  obtain ⟨hl, a, c, rfl, hsrc⟩ := hs
  rcases hsrc with ⟨rfl, rfl, rfl⟩ | ⟨ad, rfl, hn⟩
  · have hr := run_append_owned_none (P := P) (w := w) base t ty e i size ht hi v n xs hown
    have : news = [] := List.eq_nil_of_length_eq_zero (by simpa using hl)
    subst this
    exact ⟨v, w, hr, by simpa using hown, ⟨rfl, rfl, rfl, Nat.le_refl _, fun _ _ _ => rfl⟩, .inl rfl⟩
  · obtain ⟨v', w', hr, h2, h3, _, h5⟩ := run_append_own_at (P := P) w base t ty e i z size bytes ht hi hz hsize hby hzs hsz v n xs hown ad m c news hl hn h1 h63 hbytes hbase
    exact ⟨v', w', hr, h2, h3, h5⟩
theorem step_append_src {ops : Array Oper} {o : Oper} {a : Act} {K : Act → World → Prop} {Q : Exit → Act → World → Prop} {E : Prop} (hgd : o.guard = none) (s x : Operand) (t : TypeId)
    (ho : o.op = .call { callee := .builtin .append, args := #[s, x], argTypes := #[t, t] })
    (base : Nat) (e : TypeId) (i : TypeInfo) (z : Value) (size bytes : Nat) (ht : P.underlying t = some (.slice e)) (hi : P.info? e = some i) (hz : i.zero = some z)
    (hsize : i.size = size) (hby : i.bytes = bytes) (hzs : z.cells.size = size) (hsz : 0 < size)
    (v : Value) (n : Nat) (xs : List Value) (hs : a.eval s = v) (hown : w.ownsRow base e size v n xs) (sv : Value) (m : Nat) (news : List Value) (hx : a.eval x = sv) (hsrc : Src w sv m size news) (h1 : ∀ u ∈ news, u.oneCell' = true)
    (h63 : n + m ≤ maxLen) (hbytes : (n + m) * bytes ≤ 140737488355328) (hbase : base ≤ w.heap.size)
    (h : ∀ v' w', w'.ownsRow base e size v' (n + m) (xs ++ news) → w.grownBy w' v.ownBlock → (v'.ownBlock = v.ownBlock ∨ v'.ownBlock = some w.heap.size) → K (a.put o.dst v') w') :
    if Region.wanted o (yielded ops a.tmps) = true then Oper.wp P o a w K Q else E := by
  have hw : Region.wanted o (yielded ops a.tmps) = true := by simp [Region.wanted, hgd]
  rw [if_pos hw]
  obtain ⟨v', w', hr, h2, h3, h4⟩ := run_append_src (P := P) w base t o.type e i z size bytes ht hi hz hsize hby hzs hsz v n xs hown sv m news hsrc h1 h63 hbytes hbase
  unfold Oper.wp execOp
  simp only [ho, resolve, invoke, builtin, Sem.run_bind, Sem.run_pure, Result.andThen_ok, List.map_toArray, List.map_cons, List.map_nil, hs, hx, hr]
  exact h v' w' h2 h3 h4
end


/-! ### The document's ports -/
theorem Try.info83 : (Try.prog.info? 83).map (fun i => (i.zero, i.size, i.bytes)) = some (some (rwV rw0), 7, 40) := by kernel_rfl
/-- The document's ports at block y, their rows in a row of their own, made since base. -/
structure RIn (w : World) (base y : Nat) (a : Option Addr) (c : Nat) (L : List Rw) : Prop where
  row : w.rowIs y 60 1 (fun _ => .slice a L.length c)
  own : w.ownsRow base 83 7 (.slice a L.length c) L.length (wcl L)
  ok : ∀ r ∈ L, r.Ok
  many : L.length ≤ 1000000
  ne : (Value.slice a L.length c).ownBlock ≠ some y
  lo : base ≤ y
/-- Their blocks. -/
def RfS (y : Nat) (a : Option Addr) (k : Nat) : Prop := k = y ∨ (Value.slice a 0 0).ownBlock = some k
theorem ownBlock_any (a : Option Addr) (n c n' c' : Nat) : (Value.slice a n c).ownBlock = (Value.slice a n' c').ownBlock := by cases a <;> rfl
namespace RIn
variable {w w' : World} {base y : Nat} {a : Option Addr} {c : Nat} {L : List Rw}
theorem lt (h : RIn w base y a c L) : y < w.heap.size := h.row.lt
theorem c0 (h : RIn w base y a c L) : w.cell? ⟨y, 0, none⟩ = some (.slice a L.length c) := h.row.cell (i := 0) (by omega)
theorem gen {T : Nat → Prop} (h : RIn w base y a c L) (hu : Upto T w w') (hT : ∀ k, T k → ¬ RfS y a k) : RIn w' base y a c L :=
  ⟨hu.row h.row (fun hs => hT _ hs (.inl rfl)), hu.own h.own (fun k hk hs => hT k hs (.inr ((ownBlock_any a _ _ _ _).symm.trans hk))), h.ok, h.many, h.ne, h.lo⟩
theorem upto (h : RIn w base y a c L) (hu : Upto NoS w w') : RIn w' base y a c L := h.gen hu (fun _ h => h.elim)
theorem alloc (h : RIn w base y a c L) (o : Obj) : RIn (w.alloc o) base y a c L := h.upto ((Upto.refl _ _).alloc o)
theorem drew (h : RIn w base y a c L) : RIn w.drew base y a c L := h.upto (Upto.refl _ _).drew
theorem drewN (h : RIn w base y a c L) (n : Nat) : RIn (w.drewN n) base y a c L := h.upto ((Upto.refl _ _).drewN n)
theorem slt (h : RIn w base y a c L) : ∀ k, RfS y a k → base ≤ k ∧ k < w.heap.size := by
  rintro k (rfl | hk)
  · exact ⟨h.lo, h.lt⟩
  · exact h.own.lt k ((ownBlock_any a _ _ _ _).trans hk)
/-- The row at a place. -/
theorem at_ (h : RIn w base y a c L) {j : Nat} (hj : j < L.length) : ∃ q, a = some ⟨q, 0, none⟩ ∧ w.cell? ⟨q, j * 7, none⟩ = some (.int .u8 ((rwAt L j).p : Nat)) ∧ w.cell? ⟨q, j * 7 + 1, none⟩ = some (.int .u32 ((rwAt L j).oa : Nat)) ∧ w.cell? ⟨q, j * 7 + 2, none⟩ = some (.int .u16 ((rwAt L j).ob : Nat)) ∧ w.cell? ⟨q, j * 7 + 3, none⟩ = some (.int .u32 ((rwAt L j).ia : Nat)) ∧
      w.cell? ⟨q, j * 7 + 4, none⟩ = some (.int .u16 ((rwAt L j).ib : Nat)) ∧ w.cell? ⟨q, j * 7 + 5, none⟩ = some (.int .i64 ((rwAt L j).live : Nat)) ∧ w.cell? ⟨q, j * 7 + 6, none⟩ = some (.int .i64 ((rwAt L j).held : Nat)) := by
  obtain ⟨q, cp, e, _, _⟩ := own_form h.own (by omega)
  simp only [Value.slice.injEq, true_and] at e
  obtain ⟨rfl, rfl⟩ := e
  have hc := fun i hi => by
    have := h.own.cells (g := q) rfl (j * 7 + i) _ (wcl_at L j hj i hi)
    rwa [Addr.add_lit, Nat.zero_add] at this
  exact ⟨q, rfl, hc 0 (by omega), hc 1 (by omega), hc 2 (by omega), hc 3 (by omega), hc 4 (by omega), hc 5 (by omega), hc 6 (by omega)⟩
theorem frozen {q : Nat} (h : RIn w base y (some ⟨q, 0, none⟩) c L) (j : Nat) : w.frozen? ⟨q, j, none⟩ = false := h.own.frozenAt j
end RIn
end Go.Proofs.Ytfiblchdfacdiaa
