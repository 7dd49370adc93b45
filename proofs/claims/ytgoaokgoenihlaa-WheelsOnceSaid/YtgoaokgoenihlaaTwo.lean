/- Two wheels side by side, each of blocks of its own; a handle of few. -/
import Derived.Test.YtgoaokgoenihlaaWalkL
import Derived.Test.YtgoaokgoenihlaaOpen
namespace Go.Proofs.Ytgoaokgoenihlaa
open Go Go.RowKit Go.Deep Go.Maps

/-- A handle of few, by a number. -/
def hN (n : Nat) : Hn := ⟨(n % 6 : Nat), n / 6 % 3⟩
theorem hN_ok (n : Nat) : (hN n).Ok := by
  refine ⟨?_, ?_, ?_⟩
  · show -9223372036854775808 ≤ ((n % 6 : Nat) : Int); omega
  · show ((n % 6 : Nat) : Int) ≤ 9223372036854775807; omega
  · show n / 6 % 3 < 4294967296; omega
theorem results_cell_one {fn : Func} {p : Tmp} {ty : TypeId} (h : fn.results = #[.cell p ty]) (tmps : Array Value) (P : Program) (w : World) :
    (results fn tmps).run P w = ((asAddr (tmps.getD p undef)).run P w).andThen fun a w₁ => (loadVar ty a).run P w₁ := by
  simp only [results, h]
  simp [Sem.run_bind, Result.andThen]
theorem handle_any (w : World) (n : Nat) (hn : n < 256) : Calls Try.prog 14 #[.int .u8 (n : Nat)] w (Told (.agg #[.int .i64 (hN n).s, .int .u32 ((hN n).g : Nat)]) w) := by
  have e1 : (n : Int) % 6 = (hN n).s := by show _ = ((n % 6 : Nat) : Int); omega
  have e2 : (n : Int) / 6 % 3 = ((hN n).g : Nat) := by show _ = ((n / 6 % 3 : Nat) : Int); omega
  have hU : Upto NoS w (w.alloc (.cells #[.int .i64 (hN n).s, .int .u32 ((hN n).g : Nat)] 31)) := (Upto.refl _ w).alloc _
  have n0 := new_1 w #[.int .i64 (hN n).s, .int .u32 ((hN n).g : Nat)] 31 0 (.int .i64 (hN n).s) rfl
  have n1 := new_1 w #[.int .i64 (hN n).s, .int .u32 ((hN n).g : Nat)] 31 1 (.int .u32 ((hN n).g : Nat)) rfl
  go_enter Try.func14, Try.ntmps14
  go_wp2
  (try simp only [Exit.inBlock, Exit.then])
  refine bodyPost_ret (v := .agg #[.int .i64 (hN n).s, .int .u32 ((hN n).g : Nat)]) ?_ rfl ⟨rfl, ?_⟩
  · rw [results_cell_one rfl]
    go_simp
  · exact hU

theorem rowIs_drew {w : World} {b t n : Nat} {f : Nat → Value} (h : w.rowIs b t n f) : w.drew.rowIs b t n f := h
theorem far2 {w : World} {h b i : Nat} {v x y : Value} (hne : ¬ h = b) (hc : w.cell? ⟨b, i, none⟩ = some v) : ((w.setCell ⟨h, 0, none⟩ x).setCell ⟨h, 1, none⟩ y).cell? ⟨b, i, none⟩ = some v := by
  rw [World.cell?_setCell_far _ _ _ _ (by exact hne), World.cell?_setCell_far _ _ _ _ (by exact hne)]
  exact hc
def hRow (a : Hn) (i : Nat) : Value := if i = 0 then .int .i64 a.s else .int .u32 (a.g : Nat)
theorem zero_row (w : World) : (w.alloc (.cells #[.int .i64 0, .int .u32 0] 31)).rowIs w.heap.size 31 2 (hRow ⟨0, 0⟩) :=
  World.rowIs_alloc w #[.int .i64 0, .int .u32 0] 31 _ (fun i hi => by
    have : i < 2 := hi
    match i, this with
    | 0, _ => rfl | 1, _ => rfl)
theorem hn_row (w : World) (a : Hn) : (w.alloc (.cells #[.int .i64 a.s, .int .u32 (a.g : Nat)] 31)).rowIs w.heap.size 31 2 (hRow a) :=
  World.rowIs_alloc w #[.int .i64 a.s, .int .u32 (a.g : Nat)] 31 _ (fun i hi => by
    have : i < 2 := hi
    match i, this with
    | 0, _ => rfl | 1, _ => rfl)
theorem set_row {w : World} {b : Nat} {f : Nat → Value} (h : w.rowIs b 31 2 f) (a : Hn) : ((w.setCell ⟨b, 0, none⟩ (.int .i64 a.s)).setCell ⟨b, 1, none⟩ (.int .u32 (a.g : Nat))).rowIs b 31 2 (hRow a) :=
  ((h.set 0 _).set 1 _).congr (fun i hi => by
    match i, hi with
    | 0, _ => rfl | 1, _ => rfl)
/-- Two wheels, each made since w; those in K are others' blocks. -/
structure Two (w wr : World) (xa xb : Nat) (Oa Ob : Nat → Prop) (Sa Sb : Wh) (K : Nat → Prop) : Prop where
  a : WdO w wr xa Oa Sa (fun k => Ob k ∨ K k)
  b : WdO w wr xb Ob Sb (fun k => Oa k ∨ K k)
namespace Two
variable {w wr w' : World} {xa xb : Nat} {Oa Ob Oa' K K' : Nat → Prop} {Sa Sb Sa' : Wh}
theorem sw (h : Two w wr xa xb Oa Ob Sa Sb K) : Two w wr xb xa Ob Oa Sb Sa K := ⟨h.b, h.a⟩
theorem quiet (h : Two w wr xa xb Oa Ob Sa Sb K) (hu : Upto NoS wr w') : Two w w' xa xb Oa Ob Sa Sb K := ⟨h.a.quiet hu, h.b.quiet hu⟩
theorem mono (h : Two w wr xa xb Oa Ob Sa Sb K) (hK : ∀ k, K' k → K k) : Two w wr xa xb Oa Ob Sa Sb K' := ⟨h.a.mono (fun k e => e.imp id (hK k)), h.b.mono (fun k e => e.imp id (hK k))⟩
theorem add (h : Two w wr xa xb Oa Ob Sa Sb K) (hu : Upto NoS wr w') (hK : ∀ k, K' k → K k ∨ (wr.heap.size ≤ k ∧ k < w'.heap.size)) : Two w w' xa xb Oa Ob Sa Sb K' :=
  ⟨h.a.add hu (fun k hk => hk.elim (fun e => .inl (.inl e)) (fun e => (hK k e).imp .inr id)), h.b.add hu (fun k hk => hk.elim (fun e => .inl (.inl e)) (fun e => (hK k e).imp .inr id))⟩
theorem step (h : Two w wr xa xb Oa Ob Sa Sb K) (ha : WdO w w' xa Oa' Sa' (fun k => Ob k ∨ K k)) (hu : Upto (fun k => ¬ (Ob k ∨ K k)) wr w') : Two w w' xa xb Oa' Ob Sa' Sb K :=
  ⟨ha, ⟨h.b.at_.gen hu (fun k hk ho => hk (.inl ho)), ha.u, h.b.lo, fun k hk ho => hk.elim (fun e => ha.apart k (.inl ho) e) (fun e => h.b.apart k (.inr e) ho), fun k hk => hk.elim (fun e => ha.olt k e) (fun e => ha.kl k (.inr e))⟩⟩
theorem stepT {F : Nat → Prop} (h : Two w wr xa xb Oa Ob Sa Sb K) (ha : WdO w w' xa Oa Sa' (fun k => (Ob k ∨ K k) ∨ F k)) (hu : Upto (fun k => ¬ (Ob k ∨ K k)) wr w') (hF : ∀ k, F k → wr.heap.size ≤ k) : Two w w' xa xb Oa Ob Sa' Sb (fun k => K k ∨ F k) :=
  ⟨ha.mono (fun k hk => by
      rcases hk with e | e | e
      · exact .inl (.inl e)
      · exact .inl (.inr e)
      · exact .inr e),
    ⟨h.b.at_.gen hu (fun k hk ho => hk (.inl ho)), ha.u, h.b.lo, fun k hk ho => by
      rcases hk with e | e | e
      · exact ha.apart k (.inl (.inl ho)) e
      · exact h.b.apart k (.inr e) ho
      · have := hF k e; have := h.b.olt k ho; omega, fun k hk => by
      rcases hk with e | e | e
      · exact ha.olt k e
      · exact ha.kl k (.inl (.inr e))
      · exact ha.kl k (.inr e)⟩⟩
end Two
theorem Two.start {w w1 w2 : World} {xa xb : Nat} {Oa Ob : Nat → Prop} {Sa Sb : Wh} {K : Nat → Prop} (ha : WdO w w1 xa Oa Sa K) (hu : Upto NoS w1 w2) (hb : WdO w w2 xb Ob Sb Oa) : Two w w2 xa xb Oa Ob Sa Sb (fun _ => False) :=
  ⟨⟨(ha.quiet hu).at_, (ha.quiet hu).u, ha.lo, fun k hk ho => hk.elim (fun e => hb.apart k ho e) (fun e => e.elim), fun k hk => hk.elim (hb.olt k) (fun e => e.elim)⟩, hb.mono (fun k hk => hk.elim id (fun e => e.elim))⟩
/-- What a method of the first one leaves; of the second one. -/
def TwoA (w : World) (xa xb : Nat) (Ob K : Nat → Prop) (wr : World) (v : Value) (Sa' Sb : Wh) (e : Ending) (w' : World) : Prop := e = .returned v ∧ ∃ Oa', Two w w' xa xb Oa' Ob Sa' Sb K ∧ Upto (fun k => ¬ K k) wr w'
def TwoB (w : World) (xa xb : Nat) (Oa K : Nat → Prop) (wr : World) (v : Value) (Sa Sb' : Wh) (e : Ending) (w' : World) : Prop := e = .returned v ∧ ∃ Ob', Two w w' xa xb Oa Ob' Sa Sb' K ∧ Upto (fun k => ¬ K k) wr w'
def TurnA (w : World) (xa xb : Nat) (Oa Ob K : Nat → Prop) (wr : World) (er : Int) (n : Nat) (L : List Hn) (Sa' Sb : Wh) (e : Ending) (w' : World) : Prop :=
  ∃ a c, e = .returned (.tuple #[.slice a n c, .int .i64 er]) ∧ w'.ownsRow wr.heap.size 31 2 (.slice a n c) L.length (hcl L) ∧ Two w w' xa xb Oa Ob Sa' Sb (fun k => K k ∨ (Value.slice a n c).ownBlock = some k) ∧ Upto (fun k => ¬ K k) wr w'
section
variable {w wr : World} {xa xb : Nat} {Oa Ob K : Nat → Prop} {Sa Sb S' : Wh}
theorem two_of {v : Value} {e : Ending} {w' : World} (h : Two w wr xa xb Oa Ob Sa Sb K) (hp : WPost w xa (fun k => Ob k ∨ K k) wr v S' e w') : TwoA w xa xb Ob K wr v S' Sb e w' := by
  obtain ⟨rfl, O', h1, h2⟩ := hp
  exact ⟨rfl, O', h.step h1 h2, h2.mono (fun k _ hk e => hk (.inr e))⟩
theorem two_of' {v : Value} {e : Ending} {w' : World} (h : Two w wr xa xb Oa Ob Sa Sb K) (hp : WPost w xb (fun k => Oa k ∨ K k) wr v S' e w') : TwoB w xa xb Oa K wr v Sa S' e w' := by
  obtain ⟨rfl, O', h1, h2⟩ := hp
  exact ⟨rfl, O', (h.sw.step h1 h2).sw, h2.mono (fun k _ hk e => hk (.inr e))⟩
theorem put_a (h : Two w wr xa xb Oa Ob Sa Sb K) (a : Hn) (d : Int) {e s g : Int} (hl : Lies a s g) (ha : a.Ok) (hm : Sa.E.length < 1000000) (h1 : Sa.putE a d = e) (h2 : Sa.putS a d = S') :
    Calls Try.prog 10 #[.pointer (some ⟨xa, 0, none⟩), .agg #[.int .i64 s, .int .u32 g], .int .i64 d] wr (TwoA w xa xb Ob K wr (.int .i64 e) S' Sb) := (W_put_to h.a a d hl ha hm h1 h2).mono fun _ _ hp => two_of h hp
theorem put_b (h : Two w wr xa xb Oa Ob Sa Sb K) (a : Hn) (d : Int) {e s g : Int} (hl : Lies a s g) (ha : a.Ok) (hm : Sb.E.length < 1000000) (h1 : Sb.putE a d = e) (h2 : Sb.putS a d = S') :
    Calls Try.prog 10 #[.pointer (some ⟨xb, 0, none⟩), .agg #[.int .i64 s, .int .u32 g], .int .i64 d] wr (TwoB w xa xb Oa K wr (.int .i64 e) Sa S') := (W_put_to h.b a d hl ha hm h1 h2).mono fun _ _ hp => two_of' h hp
theorem W_cut_to {O : Nat → Prop} {S : Wh} {x : Nat} (h : WdO w wr x O S K) (a : Hn) {q : Bool} {s g : Int} (hl : Lies a s g) (ha : a.Ok) (h1 : (S.find a).isSome = q) (h2 : S.cut a = S') :
    Calls Try.prog 15 #[.pointer (some ⟨x, 0, none⟩), .agg #[.int .i64 s, .int .u32 g]] wr (WPost w x K wr (.bool q) S') := by rw [← h1, ← h2, ← hl.1, ← hl.2]; exact W_cut h ha
theorem W_due_to {O : Nat → Prop} {S : Wh} {x : Nat} (h : WdO w wr x O S K) (a : Hn) {v : Value} {s g : Int} (hl : Lies a s g) (ha : a.Ok) (h1 : dueV (S.find a) = v) :
    Calls Try.prog 21 #[.pointer (some ⟨x, 0, none⟩), .agg #[.int .i64 s, .int .u32 g]] wr (WPost w x K wr v S) := by rw [← h1, ← hl.1, ← hl.2]; exact W_due h ha
theorem cut_a (h : Two w wr xa xb Oa Ob Sa Sb K) (a : Hn) {q : Bool} {s g : Int} (hl : Lies a s g) (ha : a.Ok) (h1 : (Sa.find a).isSome = q) (h2 : Sa.cut a = S') :
    Calls Try.prog 15 #[.pointer (some ⟨xa, 0, none⟩), .agg #[.int .i64 s, .int .u32 g]] wr (TwoA w xa xb Ob K wr (.bool q) S' Sb) := (W_cut_to h.a a hl ha h1 h2).mono fun _ _ hp => two_of h hp
theorem cut_b (h : Two w wr xa xb Oa Ob Sa Sb K) (a : Hn) {q : Bool} {s g : Int} (hl : Lies a s g) (ha : a.Ok) (h1 : (Sb.find a).isSome = q) (h2 : Sb.cut a = S') :
    Calls Try.prog 15 #[.pointer (some ⟨xb, 0, none⟩), .agg #[.int .i64 s, .int .u32 g]] wr (TwoB w xa xb Oa K wr (.bool q) Sa S') := (W_cut_to h.b a hl ha h1 h2).mono fun _ _ hp => two_of' h hp
theorem next_a (h : Two w wr xa xb Oa Ob Sa Sb K) {m : Nat} {q : Bool} (h1 : nx Sa.E = m) (h2 : okB Sa.E = q) : Calls Try.prog 11 #[.pointer (some ⟨xa, 0, none⟩)] wr (TwoA w xa xb Ob K wr (.tuple #[.int .i64 (m : Nat), .bool q]) Sa Sb) :=
  (W_next_to h.a (by unfold nextV; rw [h1, h2])).mono fun _ _ hp => two_of h hp
theorem next_b (h : Two w wr xa xb Oa Ob Sa Sb K) {m : Nat} {q : Bool} (h1 : nx Sb.E = m) (h2 : okB Sb.E = q) : Calls Try.prog 11 #[.pointer (some ⟨xb, 0, none⟩)] wr (TwoB w xa xb Oa K wr (.tuple #[.int .i64 (m : Nat), .bool q]) Sa Sb) :=
  (W_next_to h.b (by unfold nextV; rw [h1, h2])).mono fun _ _ hp => two_of' h hp
theorem count_a (h : Two w wr xa xb Oa Ob Sa Sb K) {m : Nat} (h1 : Sa.E.length = m) : Calls Try.prog 13 #[.pointer (some ⟨xa, 0, none⟩)] wr fun e w' => e = .returned (.int .i64 (m : Nat)) ∧ wr = w' := by rw [← h1]; exact W_count h.a
theorem count_b (h : Two w wr xa xb Oa Ob Sa Sb K) {m : Nat} (h1 : Sb.E.length = m) : Calls Try.prog 13 #[.pointer (some ⟨xb, 0, none⟩)] wr fun e w' => e = .returned (.int .i64 (m : Nat)) ∧ wr = w' := by rw [← h1]; exact W_count h.b
theorem turn_a (h : Two w wr xa xb Oa Ob Sa Sb K) (now : Int) {er : Int} {n : Nat} {L : List Hn} (h1 : Sa.turnE now = er) (h2 : Sa.turnL now = L) (h3 : Sa.turnS now = S') (h4 : L.length = n) :
    Calls Try.prog 12 #[.pointer (some ⟨xa, 0, none⟩), .int .i64 now] wr (TurnA w xa xb Oa Ob K wr er n L S' Sb) := by
  refine (W_turn_to h.a now h1 h2 h3 h4).mono ?_
  rintro e w' ⟨a, c, rfl, ho, hW, hu⟩
  exact ⟨a, c, rfl, ho, h.stepT hW hu (fun k hk => (ho.lt k hk).1), hu.mono (fun k _ hk e => hk (.inr e))⟩
theorem turn_b (h : Two w wr xa xb Oa Ob Sa Sb K) (now : Int) {er : Int} {n : Nat} {L : List Hn} (h1 : Sb.turnE now = er) (h2 : Sb.turnL now = L) (h3 : Sb.turnS now = S') (h4 : L.length = n) :
    Calls Try.prog 12 #[.pointer (some ⟨xb, 0, none⟩), .int .i64 now] wr fun e w' => ∃ a c, e = .returned (.tuple #[.slice a n c, .int .i64 er]) ∧ w'.ownsRow wr.heap.size 31 2 (.slice a n c) L.length (hcl L) ∧ Two w w' xa xb Oa Ob Sa S' (fun k => K k ∨ (Value.slice a n c).ownBlock = some k) ∧ Upto (fun k => ¬ K k) wr w' := by
  refine (W_turn_to h.b now h1 h2 h3 h4).mono ?_
  rintro e w' ⟨a, c, rfl, ho, hW, hu⟩
  exact ⟨a, c, rfl, ho, (h.sw.stepT hW hu (fun k hk => (ho.lt k hk).1)).sw, hu.mono (fun k _ hk e => hk (.inr e))⟩
end

/-! ### Two wheels of as many handles, of whatever number of places -/
/-- What a Put leaves. -/
def putL (E : List Tm) (a : Hn) (d : Nat) : List Tm := if ((E.find? fun t => t.h == a)).isSome then E else E ++ [⟨d, a⟩]
def putR (E : List Tm) (a : Hn) : Int := if ((E.find? fun t => t.h == a)).isSome then 7 else 0
def cutL (E : List Tm) (a : Hn) : List Tm := E.filter fun t => !(t.h == a)
def cutR (E : List Tm) (a : Hn) : Bool := (E.find? fun t => t.h == a).isSome
def turnT (E : List Tm) (d : Nat) : List Tm := E.filter fun t => !decide (t.d ≤ d)
def turnR (E : List Tm) (d : Nat) : List Hn := (srt (E.filter fun t => decide (t.d ≤ d))).map Tm.h
theorem sz_put (n last : Nat) (E : List Tm) (a : Hn) {d : Nat} (hd : d ≤ 1099511627776) : (⟨n, last, E⟩ : Wh).putE a (d : Nat) = putR E a ∧ (⟨n, last, E⟩ : Wh).putS a (d : Nat) = ⟨n, last, putL E a d⟩ := by
  have h : ¬ (((d : Nat) : Int) < 0 ∨ (1099511627776 : Int) < ((d : Nat) : Int)) := by omega
  unfold Wh.putE Wh.putS putR putL
  rw [if_neg h, if_neg h]
  refine ⟨rfl, ?_⟩
  show (if (E.find? fun t => t.h == a).isSome = true then _ else _) = _
  split <;> rfl
theorem sz_turn (n last : Nat) (E : List Tm) {d : Nat} (hl : last ≤ d) (hd : d ≤ 1099511627776) : (⟨n, last, E⟩ : Wh).turnE (d : Nat) = 0 ∧ (⟨n, last, E⟩ : Wh).turnL (d : Nat) = turnR E d ∧ (⟨n, last, E⟩ : Wh).turnS (d : Nat) = ⟨n, d, turnT E d⟩ := by
  have h : ¬ (((d : Nat) : Int) < (⟨n, last, E⟩ : Wh).last ∨ (1099511627776 : Int) < ((d : Nat) : Int)) := by show ¬ (((d : Nat) : Int) < ((last : Nat) : Int) ∨ _); omega
  unfold Wh.turnE Wh.turnL Wh.turnS
  rw [if_neg h, if_neg h, if_neg h]
  exact ⟨rfl, rfl, rfl⟩
theorem putL_le (E : List Tm) (a : Hn) (d : Nat) : (putL E a d).length ≤ E.length + 1 := by unfold putL; split <;> simp
theorem cutL_le (E : List Tm) (a : Hn) : (cutL E a).length ≤ E.length := List.length_filter_le _ _
theorem turnT_le (E : List Tm) (d : Nat) : (turnT E d).length ≤ E.length := List.length_filter_le _ _
theorem turnR_le (E : List Tm) (d : Nat) : (turnR E d).length ≤ E.length := by
  unfold turnR
  rw [List.length_map, srt_len]
  exact List.length_filter_le _ _
end Go.Proofs.Ytgoaokgoenihlaa
