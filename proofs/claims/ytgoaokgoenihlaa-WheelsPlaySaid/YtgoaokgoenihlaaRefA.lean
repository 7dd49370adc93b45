/- The document's wheel in memory: its last tick, and its handles in a row; its small methods, walked. -/
import Derived.Test.YtgoaokgoenihlaaWalkC
import Derived.Laws.StructEq
namespace Go.Proofs.Ytgoaokgoenihlaa
open Go Go.RowKit Go.Deep Go.Maps

/-- A handle, and when it is due, as the document's row holds them. -/
abbrev rcs (t : Tm) : List Value := [.int .i64 t.h.s, .int .u32 (t.h.g : Nat), .int .i64 (t.d : Nat)]
abbrev rtv (t : Tm) : Value := .agg #[.int .i64 t.h.s, .int .u32 (t.h.g : Nat), .int .i64 (t.d : Nat)]
def rcl (L : List Tm) : List Value := L.flatMap rcs
theorem rcl_append (L M : List Tm) : rcl (L ++ M) = rcl L ++ rcl M := by simp [rcl]
theorem rcl_length (L : List Tm) : (rcl L).length = L.length * 3 := by
  induction L with
  | nil => rfl
  | cons p l ih => simp only [rcl, List.flatMap_cons, List.length_append, List.length_cons, List.length_nil] at ih ⊢; omega
theorem rcl_at (L : List Tm) (j : Nat) (h : j < L.length) : (rcl L)[j * 3]? = some (.int .i64 (ts L j)) ∧ (rcl L)[j * 3 + 1]? = some (.int .u32 (tg L j : Nat)) ∧ (rcl L)[j * 3 + 2]? = some (.int .i64 (td L j : Nat)) := by
  induction L generalizing j with
  | nil => simp at h
  | cons p l ih =>
    cases j with
    | zero => exact ⟨rfl, rfl, rfl⟩
    | succ j =>
      have := ih j (by simpa using h)
      rw [show (j + 1) * 3 = j * 3 + 3 from by omega]
      simpa [rcl, td, ts, tg] using this
theorem rcl_one (L : List Tm) : ∀ u ∈ rcl L, u.oneCell' = true := by
  intro u hu
  obtain ⟨t, _, h⟩ := List.mem_flatMap.1 hu
  simp at h; rcases h with rfl | rfl | rfl <;> rfl
theorem rcl_take (L : List Tm) (k : Nat) : rcl (L.take k) = (rcl L).take (k * 3) := by
  induction L generalizing k with
  | nil => simp [rcl]
  | cons p l ih =>
    cases k with
    | zero => simp [rcl]
    | succ k =>
      have := ih k
      rw [show (k + 1) * 3 = k * 3 + 1 + 1 + 1 from by omega]
      simpa [rcl] using this
theorem rcl_drop (L : List Tm) (k : Nat) : rcl (L.drop k) = (rcl L).drop (k * 3) := by
  induction L generalizing k with
  | nil => simp [rcl]
  | cons p l ih =>
    cases k with
    | zero => simp [rcl]
    | succ k =>
      have := ih k
      rw [show (k + 1) * 3 = k * 3 + 1 + 1 + 1 from by omega]
      simpa [rcl] using this

/-- A row that is read: from wherever in its block. -/
structure LAt (w : World) (a : Option Addr) (c : Nat) (L : List Tm) : Prop where
  le : L.length ≤ c
  cap : c ≤ maxLen
  at_ : (a = none ∧ c = 0) ∨ ∃ q o, a = some ⟨q, o, none⟩ ∧ q < w.heap.size ∧ ∀ j u, (rcl L)[j]? = some u → w.cell? ⟨q, o + j, none⟩ = some u
/-- Its block. -/
def LO (a : Option Addr) (k : Nat) : Prop := ∃ o, a = some ⟨k, o, none⟩
namespace LAt
variable {w w' : World} {a : Option Addr} {c : Nat} {L : List Tm}
theorem gen {T : Nat → Prop} (h : LAt w a c L) (hu : Upto T w w') (hT : ∀ k, T k → ¬ LO a k) : LAt w' a c L := by
  refine ⟨h.le, h.cap, ?_⟩
  rcases h.at_ with e | ⟨q, o, ha, hq, hc⟩
  · exact .inl e
  · exact .inr ⟨q, o, ha, Nat.lt_of_lt_of_le hq hu.size, fun j u hj => hu.keep (hc j u hj) (fun ht => hT q ht ⟨o, ha⟩)⟩
theorem cells (h : LAt w a c L) {j : Nat} (hj : j < L.length) : ∃ q o, a = some ⟨q, o, none⟩ ∧ w.cell? ⟨q, o + j * 3, none⟩ = some (.int .i64 (ts L j)) ∧ w.cell? ⟨q, o + j * 3 + 1, none⟩ = some (.int .u32 (tg L j : Nat)) ∧ w.cell? ⟨q, o + j * 3 + 2, none⟩ = some (.int .i64 (td L j : Nat)) := by
  rcases h.at_ with ⟨_, e⟩ | ⟨q, o, ha, hq, hc⟩
  · have := h.le; omega
  · obtain ⟨h1, h2, h3⟩ := rcl_at L j hj
    exact ⟨q, o, ha, hc _ _ h1, by have := hc _ _ h2; rwa [← Nat.add_assoc] at this, by have := hc _ _ h3; rwa [← Nat.add_assoc] at this⟩
theorem take (h : LAt w a c L) {k : Nat} (hk : k ≤ L.length) : LAt w a c (L.take k) := by
  have := h.le
  refine ⟨by rw [List.length_take]; omega, h.cap, ?_⟩
  rcases h.at_ with e | ⟨q, o, ha, hq, hc⟩
  · exact .inl e
  · refine .inr ⟨q, o, ha, hq, fun j u hj => hc j u ?_⟩
    rw [rcl_take, List.getElem?_take] at hj
    split at hj
    · exact hj
    · cases hj
theorem own {base n : Nat} (h : w.ownsRow base 77 3 (.slice a n c) L.length (rcl L)) : LAt w a c L := by
  rcases h.2 with ⟨hv, h0⟩ | ⟨g, cap, cur, hv, hb, hg, h1, h2, _⟩
  · cases hv
    exact ⟨by omega, by omega, .inl ⟨rfl, rfl⟩⟩
  · cases hv
    refine ⟨h1, h2, .inr ⟨g, 0, rfl, ?_, fun j u hj => ?_⟩⟩
    · rcases Nat.lt_or_ge g w.heap.size with hlt | hge
      · exact hlt
      · rw [Array.getElem?_eq_none hge] at hg; cases hg
    · have := h.cells (g := g) rfl j u hj
      rwa [Addr.add_lit] at this
end LAt
theorem LAt.drop {w : World} {q o c : Nat} {L : List Tm} (h : LAt w (some ⟨q, o, none⟩) c L) {k : Nat} (hk : k ≤ L.length) : LAt w (some ⟨q, o + k * 3, none⟩) (c - k) (L.drop k) := by
  have := h.le
  have := h.cap
  refine ⟨by rw [List.length_drop]; omega, by omega, ?_⟩
  rcases h.at_ with ⟨e, _⟩ | ⟨q', o', ha, hq, hc⟩
  · cases e
  · simp only [Option.some.injEq, Addr.mk.injEq, and_true] at ha
    obtain ⟨rfl, rfl⟩ := ha
    refine .inr ⟨q, o + k * 3, rfl, hq, fun j u hj => ?_⟩
    rw [rcl_drop, List.getElem?_drop] at hj
    have := hc _ _ hj
    rwa [← Nat.add_assoc] at this

/-- What a source holds that is appended. -/
def Src (w : World) (v : Value) (m size : Nat) (news : List Value) : Prop :=
  news.length = m * size ∧ ∃ a c, v = .slice a m c ∧ ((a = none ∧ m = 0 ∧ c = 0) ∨ ∃ ad, a = some ad ∧ ∀ j u, news[j]? = some u → w.cell? (ad.add j) = some u)
theorem LAt.src {w : World} {a : Option Addr} {c : Nat} {L : List Tm} (h : LAt w a c L) : Src w (.slice a L.length c) L.length 3 (rcl L) := by
  refine ⟨rcl_length L, a, c, rfl, ?_⟩
  have hle := h.le
  rcases h.at_ with ⟨e, e2⟩ | ⟨q, o, ha, hq, hc⟩
  · exact .inl ⟨e, by omega, e2⟩
  · exact .inr ⟨_, ha, fun j u hj => by rw [Addr.add_lit]; exact hc j u hj⟩
section
variable {P : Program} (w : World)
theorem run_append_src (base : Nat) (t ty e : TypeId) (i : TypeInfo) (z : Value) (size bytes : Nat) (ht : P.underlying t = some (.slice e)) (hi : P.info? e = some i) (hz : i.zero = some z)
    (hsize : i.size = size) (hby : i.bytes = bytes) (hzs : z.cells.size = size) (hsz : 0 < size)
    (v : Value) (n : Nat) (xs : List Value) (hown : w.ownsRow base e size v n xs) (sv : Value) (m : Nat) (news : List Value) (hs : Src w sv m size news) (h1 : ∀ u ∈ news, u.oneCell' = true)
    (h63 : n + m ≤ maxLen) (hbytes : (n + m) * bytes ≤ 140737488355328) (hbase : base ≤ w.heap.size) :
    ∃ v' w', (Builtin.append_ #[t, t] ty #[v, sv]).run P w = .ok v' w' ∧ w'.ownsRow base e size v' (n + m) (xs ++ news) ∧ w.grownBy w' v.ownBlock ∧ (v'.ownBlock = v.ownBlock ∨ v'.ownBlock = some w.heap.size) := by
  obtain ⟨hl, a, c, rfl, hsrc⟩ := hs
  rcases hsrc with ⟨rfl, rfl, rfl⟩ | ⟨ad, rfl, hn⟩
  · have hr := run_append_owned_none (P := P) (w := w) base t ty e i size ht hi v n xs hown
    have : news = [] := List.eq_nil_of_length_eq_zero (by simpa using hl)
    subst this
    exact ⟨v, w, hr, by simpa using hown, ⟨rfl, rfl, rfl, Nat.le_refl _, fun _ _ _ => rfl⟩, .inl rfl⟩
  · obtain ⟨v', w', hr, h2, h3, _, h5⟩ := run_append_own_at (P := P) w base t ty e i z size bytes ht hi hz hsize hby hzs hsz v n xs hown ad m c news hl hn h1 h63 hbytes hbase
    exact ⟨v', w', hr, h2, h3, h5⟩
theorem step_append_src {ops : Array Oper} {o : Oper} {a : Act} {K : Act → World → Prop} {Q : Exit → Act → World → Prop} {E : Prop} (hgd : o.guard = none) (s x : Operand) (t : TypeId)
    (ho : o.op = .call { callee := .builtin .append, args := #[s, x], argTypes := #[t, t] })
    (base : Nat) (e : TypeId) (i : TypeInfo) (z : Value) (size bytes : Nat) (ht : P.underlying t = some (.slice e)) (hi : P.info? e = some i) (hz : i.zero = some z)
    (hsize : i.size = size) (hby : i.bytes = bytes) (hzs : z.cells.size = size) (hsz : 0 < size)
    (v : Value) (n : Nat) (xs : List Value) (hs : a.eval s = v) (hown : w.ownsRow base e size v n xs) (sv : Value) (m : Nat) (news : List Value) (hx : a.eval x = sv) (hsrc : Src w sv m size news) (h1 : ∀ u ∈ news, u.oneCell' = true)
    (h63 : n + m ≤ maxLen) (hbytes : (n + m) * bytes ≤ 140737488355328) (hbase : base ≤ w.heap.size)
    (h : ∀ v' w', w'.ownsRow base e size v' (n + m) (xs ++ news) → w.grownBy w' v.ownBlock → (v'.ownBlock = v.ownBlock ∨ v'.ownBlock = some w.heap.size) → K (a.put o.dst v') w') :
    if Region.wanted o (yielded ops a.tmps) = true then Oper.wp P o a w K Q else E := by
  have hw : Region.wanted o (yielded ops a.tmps) = true := by simp [Region.wanted, hgd]
  rw [if_pos hw]
  obtain ⟨v', w', hr, h2, h3, h4⟩ := run_append_src (P := P) w base t o.type e i z size bytes ht hi hz hsize hby hzs hsz v n xs hown sv m news hsrc h1 h63 hbytes hbase
  unfold Oper.wp execOp
  simp only [ho, resolve, invoke, builtin, Sem.run_bind, Sem.run_pure, Result.andThen_ok, List.map_toArray, List.map_cons, List.map_nil, hs, hx, hr]
  exact h v' w' h2 h3 h4
end

/-! ### The document's wheel -/
structure Rf where
  last : Nat
  L : List Tm
structure Rf.Ok (R : Rf) : Prop where
  last : R.last ≤ 1099511627776
  each : ∀ t ∈ R.L, t.d ≤ 1099511627776 ∧ t.h.Ok
  many : R.L.length ≤ 1000000
def rfF (last : Nat) (a : Option Addr) (n c : Nat) (i : Nat) : Value := if i = 0 then .int .i64 (last : Nat) else .slice a n c
/-- The document's wheel at block y, its row at a. -/
structure RIn (w : World) (y : Nat) (a : Option Addr) (c : Nat) (R : Rf) : Prop where
  row : w.rowIs y 55 2 (rfF R.last a R.L.length c)
  l : LAt w a c R.L
  ok : R.Ok
  ne : ∀ k, LO a k → k ≠ y
namespace RIn
variable {w w' : World} {y : Nat} {a : Option Addr} {c : Nat} {R : Rf}
theorem lt (h : RIn w y a c R) : y < w.heap.size := h.row.lt
theorem c0 (h : RIn w y a c R) : w.cell? ⟨y, 0, none⟩ = some (.int .i64 (R.last : Nat)) := h.row.cell (i := 0) (by omega)
theorem c1 (h : RIn w y a c R) : w.cell? ⟨y, 1, none⟩ = some (.slice a R.L.length c) := h.row.cell (i := 1) (by omega)
theorem gen {T : Nat → Prop} (h : RIn w y a c R) (hu : Upto T w w') (hT : ∀ k, T k → ¬ (k = y ∨ LO a k)) : RIn w' y a c R :=
  ⟨hu.row h.row (fun hs => hT _ hs (.inl rfl)), h.l.gen hu (fun k hk hl => hT k hk (.inr hl)), h.ok, h.ne⟩
theorem upto (h : RIn w y a c R) (hu : Upto NoS w w') : RIn w' y a c R := h.gen hu (fun _ h => h.elim)
theorem alloc (h : RIn w y a c R) (o : Obj) : RIn (w.alloc o) y a c R := h.upto ((Upto.refl _ _).alloc o)
theorem drew (h : RIn w y a c R) : RIn w.drew y a c R := h.upto (Upto.refl _ _).drew
theorem drewN (h : RIn w y a c R) (n : Nat) : RIn (w.drewN n) y a c R := h.upto ((Upto.refl _ _).drewN n)
end RIn
theorem own_LO {a : Option Addr} {n c k : Nat} (h : LO a k) : ∃ o, (Value.slice a n c) = .slice (some ⟨k, o, none⟩) n c := by
  obtain ⟨o, rfl⟩ := h
  exact ⟨o, rfl⟩

theorem Count_r (w : World) (y : Nat) (a : Option Addr) (c : Nat) (R : Rf) (h : RIn w y a c R) :
    Calls Try.prog 24 #[.pointer (some ⟨y, 0, none⟩)] w fun e w' => e = .returned (.int .i64 (R.L.length : Nat)) ∧ w = w' := by
  have hc := h.c1
  have hl := h.ok.many
  clear h
  go_enter Try.func24, Try.ntmps24
  go_wp2
  go_ret
  exact ⟨rfl, rfl⟩
def hdV : List Tm → Value
  | [] => .tuple #[.int .i64 0, .bool false]
  | t :: _ => .tuple #[.int .i64 (t.d : Nat), .bool true]
theorem Next_r (w : World) (y : Nat) (a : Option Addr) (c : Nat) (R : Rf) (h : RIn w y a c R) :
    Calls Try.prog 23 #[.pointer (some ⟨y, 0, none⟩)] w fun e w' => e = .returned (hdV R.L) ∧ w = w' := by
  have hc := h.c1
  have hl := h.ok.many
  have hL := h.l
  obtain ⟨last, L⟩ := R
  cases L with
  | nil =>
    clear h hL
    go_enter Try.func23, Try.ntmps23
    go_wp2
    go_ret2
    exact ⟨rfl, rfl⟩
  | cons t l =>
    obtain ⟨q, o, rfl, d0, d1, d2⟩ := hL.cells (j := 0) (by simp)
    clear h hL d0 d1
    have hpos : 0 < (t :: l).length := by simp
    have e2 : w.cell? ⟨q, o + 2, none⟩ = some (.int .i64 (t.d : Nat)) := by simpa [td] using d2
    clear d2
    simp only at hc hl
    generalize (t :: l).length = n at hc hl hpos
    have z1 : (0 : Int) < (n : Nat) := by omega
    have hn : ((n : Int) == 0) = false := by simp; omega
    go_enter Try.func23, Try.ntmps23
    go_wp2
    go_ret2
    exact ⟨rfl, rfl⟩
end Go.Proofs.Ytgoaokgoenihlaa
