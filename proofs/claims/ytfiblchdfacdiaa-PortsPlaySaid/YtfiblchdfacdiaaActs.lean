/- Acts that come in, opened to cells; Small and Point, walked. -/
import Derived.Test.YtfiblchdfacdiaaOpen
import Derived.Test.YtfiblchdfacdiaaAt
namespace Go.Proofs.Ytfiblchdfacdiaa
open Go Go.RowKit Go.ChangeShapes Go.WideShapes Go.ChangeAt Go.Deep

/-- An act: what is done, its numbers, its wish, its endpoint. -/
structure ActP where
  k : Nat
  pr : Nat
  i : Nat
  o : Nat
  s : Nat
  W : Ws
  fa : Nat
  fb : Nat
structure ActP.Ok (z : ActP) : Prop where
  k : z.k < 256
  pr : z.pr < 256
  i : z.i < 256
  o : z.o < 256
  s : z.s < 256
  W : z.W.Ok
  fa : z.fa < 4294967296
  fb : z.fb < 65536
abbrev acells (z : ActP) : Array Value := #[.int .u8 (z.k : Nat), .int .u8 (z.pr : Nat), .int .u8 (z.i : Nat), .int .u8 (z.o : Nat), .int .u8 (z.s : Nat), .int .u8 (z.W.p : Nat), .int .u32 (z.W.ia : Nat), .int .u16 (z.W.ib : Nat), .int .u32 (z.W.ip : Nat), .int .u16 (z.W.fr : Nat), .int .u16 (z.W.tu : Nat), .int .u16 (z.W.dr : Nat), .int .u32 (z.fa : Nat), .int .u16 (z.fb : Nat)]
abbrev actv (z : ActP) : Value := .agg (acells z)
def acF (z : ActP) (i : Nat) : Value :=
  if i = 0 then .int .u8 (z.k : Nat) else if i = 1 then .int .u8 (z.pr : Nat) else if i = 2 then .int .u8 (z.i : Nat) else if i = 3 then .int .u8 (z.o : Nat) else if i = 4 then .int .u8 (z.s : Nat)
  else if i = 5 then .int .u8 (z.W.p : Nat) else if i = 6 then .int .u32 (z.W.ia : Nat) else if i = 7 then .int .u16 (z.W.ib : Nat) else if i = 8 then .int .u32 (z.W.ip : Nat) else if i = 9 then .int .u16 (z.W.fr : Nat)
  else if i = 10 then .int .u16 (z.W.tu : Nat) else if i = 11 then .int .u16 (z.W.dr : Nat) else if i = 12 then .int .u32 (z.fa : Nat) else .int .u16 (z.fb : Nat)
theorem new_ac (w : World) (z : ActP) : (w.alloc (.cells (acells z) 50)).rowIs w.heap.size 50 14 (acF z) :=
  World.rowIs_alloc w (acells z) 50 _ (fun i hi => by
    have : i < 14 := hi
    match i, this with
    | 0, _ => rfl | 1, _ => rfl | 2, _ => rfl | 3, _ => rfl | 4, _ => rfl | 5, _ => rfl | 6, _ => rfl | 7, _ => rfl | 8, _ => rfl | 9, _ => rfl | 10, _ => rfl | 11, _ => rfl | 12, _ => rfl | 13, _ => rfl)
/-- The cells of an act, at a place. -/
def AcAt (w : World) (b o : Nat) (z : ActP) : Prop := ∀ i, i < 14 → w.cell? ⟨b, o + i, none⟩ = some (acF z i)
/-- Acts that come in. -/
def ActsAt (w : World) (a : Option Addr) (len : Nat) (z : Nat → ActP) : Prop :=
  ∀ j, j < len → (z j).Ok ∧ ∃ bo off, a = some ⟨bo, off, none⟩ ∧ bo < w.heap.size ∧ AcAt w bo (off + j * 14) (z j)
section
variable {H : Type} {enc : TypeId × Value → H} {w : World} {base : Nat} {spare : Nat → Bool} {held : Bool}
theorem open_act' {fuel : Nat} {cs : List Value} {x : DataW H × List MemPlace} (h : DataW.trod enc Try.prog w base spare held fuel 50 cs = some x) :
    ∃ z : ActP, z.Ok ∧ cs = (acells z).toList := by
  obtain ⟨xs, n, _, hx, hl, hlen, hf⟩ := DataW.trod_struct Try.underlying50 h
  have hl14 : cs.length = 14 := hl.trans k50
  obtain ⟨c0, c1, c2, c3, c4, c5, c6, c7, c8, c9, c10, c11, c12, c13, rfl⟩ := len14 hl14
  obtain ⟨x0, x1, x2, x3, x4, x5, x6, rfl⟩ := len7 hlen
  · skip
    have h0 : DataW.trod enc Try.prog w base spare held n 5 [c0] = some x0 := by have this : DataW.trod enc Try.prog w base spare held n 5 (List.take (Try.prog.cellsOf 5) (List.drop 0 [c0, c1, c2, c3, c4, c5, c6, c7, c8, c9, c10, c11, c12, c13])) = some x0 := hf 0 _ rfl; rw [k5] at this; exact this
    have h1 : DataW.trod enc Try.prog w base spare held n 5 [c1] = some x1 := by have this : DataW.trod enc Try.prog w base spare held n 5 (List.take (Try.prog.cellsOf 5) (List.drop 1 [c0, c1, c2, c3, c4, c5, c6, c7, c8, c9, c10, c11, c12, c13])) = some x1 := hf 1 _ rfl; rw [k5] at this; exact this
    have h2 : DataW.trod enc Try.prog w base spare held n 5 [c2] = some x2 := by have this : DataW.trod enc Try.prog w base spare held n 5 (List.take (Try.prog.cellsOf 5) (List.drop 2 [c0, c1, c2, c3, c4, c5, c6, c7, c8, c9, c10, c11, c12, c13])) = some x2 := hf 2 _ rfl; rw [k5] at this; exact this
    have h3 : DataW.trod enc Try.prog w base spare held n 5 [c3] = some x3 := by have this : DataW.trod enc Try.prog w base spare held n 5 (List.take (Try.prog.cellsOf 5) (List.drop 3 [c0, c1, c2, c3, c4, c5, c6, c7, c8, c9, c10, c11, c12, c13])) = some x3 := hf 3 _ rfl; rw [k5] at this; exact this
    have h4 : DataW.trod enc Try.prog w base spare held n 5 [c4] = some x4 := by have this : DataW.trod enc Try.prog w base spare held n 5 (List.take (Try.prog.cellsOf 5) (List.drop 4 [c0, c1, c2, c3, c4, c5, c6, c7, c8, c9, c10, c11, c12, c13])) = some x4 := hf 4 _ rfl; rw [k5] at this; exact this
    have h5 : DataW.trod enc Try.prog w base spare held n 28 [c5, c6, c7, c8, c9, c10, c11] = some x5 := by have this : DataW.trod enc Try.prog w base spare held n 28 (List.take (Try.prog.cellsOf 28) (List.drop 5 [c0, c1, c2, c3, c4, c5, c6, c7, c8, c9, c10, c11, c12, c13])) = some x5 := hf 5 _ rfl; rw [k28] at this; exact this
    have h6 : DataW.trod enc Try.prog w base spare held n 26 [c12, c13] = some x6 := by have this : DataW.trod enc Try.prog w base spare held n 26 (List.take (Try.prog.cellsOf 26) (List.drop 12 [c0, c1, c2, c3, c4, c5, c6, c7, c8, c9, c10, c11, c12, c13])) = some x6 := hf 6 _ rfl; rw [k26] at this; exact this
    obtain ⟨n0, e0, _, g0⟩ := DataW.trod_int Try.underlying5 (x := x0) h0
    obtain ⟨n1, e1, _, g1⟩ := DataW.trod_int Try.underlying5 (x := x1) h1
    obtain ⟨n2, e2, _, g2⟩ := DataW.trod_int Try.underlying5 (x := x2) h2
    obtain ⟨n3, e3, _, g3⟩ := DataW.trod_int Try.underlying5 (x := x3) h3
    obtain ⟨n4, e4, _, g4⟩ := DataW.trod_int Try.underlying5 (x := x4) h4
    obtain ⟨W, hW, e5⟩ := open_wish h5
    obtain ⟨m1, m2, q1, q2, e6⟩ := open_ep h6
    simp at e0 e1 e2 e3 e4 e5 e6
    obtain ⟨rfl, rfl, rfl, rfl, rfl, rfl, rfl⟩ := e5
    obtain ⟨rfl, rfl⟩ := e6
    subst e0; subst e1; subst e2; subst e3; subst e4
    have b0 := bounds_u8' g0
    have b1 := bounds_u8' g1
    have b2 := bounds_u8' g2
    have b3 := bounds_u8' g3
    have b4 := bounds_u8' g4
    obtain ⟨m0', rfl⟩ := Int.eq_ofNat_of_zero_le b0.1
    obtain ⟨m1', rfl⟩ := Int.eq_ofNat_of_zero_le b1.1
    obtain ⟨m2', rfl⟩ := Int.eq_ofNat_of_zero_le b2.1
    obtain ⟨m3', rfl⟩ := Int.eq_ofNat_of_zero_le b3.1
    obtain ⟨m4', rfl⟩ := Int.eq_ofNat_of_zero_le b4.1
    exact ⟨⟨m0', m1', m2', m3', m4', W, m1, m2⟩, ⟨by show m0' < 256; omega, by show m1' < 256; omega, by show m2' < 256; omega, by show m3' < 256; omega, by show m4' < 256; omega, hW, q1, q2⟩, rfl⟩
theorem ac_at (z : ActP) (i : Nat) (hi : i < 14) : (acells z).toList[i]? = some (acF z i) := by
  match i, hi with
  | 0, _ => rfl | 1, _ => rfl | 2, _ => rfl | 3, _ => rfl | 4, _ => rfl | 5, _ => rfl | 6, _ => rfl | 7, _ => rfl | 8, _ => rfl | 9, _ => rfl | 10, _ => rfl | 11, _ => rfl | 12, _ => rfl | 13, _ => rfl
theorem open_acts {fuel : Nat} {a : Option Addr} {len cap : Nat} {x : DataW H × List MemPlace} (h : DataW.trod enc Try.prog w base spare held fuel 48 [.slice a len cap] = some x) :
    len ≤ 9223372036854775807 ∧ ∃ z : Nat → ActP, ActsAt w a len z := by
  rcases open_slice Try.underlying48 h with ⟨hcs, _⟩ | ⟨p, l, c, m, n, D, Pl, hcs, hb, hl, hm, hmm, _, hi⟩
  · simp only [List.cons.injEq, Value.slice.injEq, and_true] at hcs
    obtain ⟨rfl, rfl, rfl⟩ := hcs
    exact ⟨by omega, fun _ => ⟨0, 0, 0, 0, 0, ⟨0, 0, 0, 0, 0, 0, 0⟩, 0, 0⟩, fun k hk => by omega⟩
  · simp only [List.cons.injEq, Value.slice.injEq, and_true] at hcs
    obtain ⟨rfl, rfl, rfl⟩ := hcs
    refine ⟨by unfold maxLen at hm; omega, ?_⟩
    obtain ⟨b, off, spot⟩ := p
    have hlm : len ≤ m := by rw [hmm]; split <;> omega
    have all : ∀ k, ∃ y : ActP, k < len → y.Ok ∧ ∃ b' off', some (⟨b, off, spot⟩ : Addr) = some ⟨b', off', none⟩ ∧ b' < w.heap.size ∧ AcAt w b' (off' + k * 14) y := by
      intro k
      by_cases hk : k < len
      · obtain ⟨cs, hc, ht⟩ := hi k (by omega)
        rw [k50] at hc
        obtain ⟨y, hy, rfl⟩ := open_act' ht
        obtain ⟨_, hcl, hat⟩ := World.cells?_some hc
        refine ⟨y, fun _ => ⟨hy, ?_⟩⟩
        have c0 := hat 0 (by omega)
        have hspot : spot = none := by
          obtain ⟨cs2, hc2, ht2⟩ := hi 0 (by omega)
          obtain ⟨_, _, rfl⟩ := open_act' ht2
          obtain ⟨_, _, hat2⟩ := World.cells?_some hc2
          have d0 := hat2 0 (by rw [k50]; omega)
          simpa [Addr.add] using World.cell?_spot d0
        subst hspot
        have hall : AcAt w b (off + k * 14) y := fun i hi14 => by
          have := hat i hi14
          rw [Addr.add_lit, Addr.add_lit] at this
          rw [this]
          exact ac_at y i hi14
        exact ⟨b, off, rfl, World.block_lt_of_cell? w _ (hall 0 (by omega)), hall⟩
      · exact ⟨⟨0, 0, 0, 0, 0, ⟨0, 0, 0, 0, 0, 0, 0⟩, 0, 0⟩, fun h => absurd h hk⟩
    exact ⟨fun k => Classical.choose (all k), fun k hk => Classical.choose_spec (all k) hk⟩
end
theorem AcAt.upto {w w' : World} {b o : Nat} {z : ActP} (h : AcAt w b o z) (hu : Upto NoS w w') : AcAt w' b o z := fun i hi => hu.keep (h i hi) id
theorem AcAt.cells {w : World} {b o : Nat} {z : ActP} (h : AcAt w b o z) : w.cell? ⟨b, o, none⟩ = some (.int .u8 (z.k : Nat)) ∧ w.cell? ⟨b, o + 1, none⟩ = some (.int .u8 (z.pr : Nat)) ∧ w.cell? ⟨b, o + 2, none⟩ = some (.int .u8 (z.i : Nat)) ∧ w.cell? ⟨b, o + 3, none⟩ = some (.int .u8 (z.o : Nat)) ∧ w.cell? ⟨b, o + 4, none⟩ = some (.int .u8 (z.s : Nat)) ∧ w.cell? ⟨b, o + 5, none⟩ = some (.int .u8 (z.W.p : Nat)) ∧ w.cell? ⟨b, o + 6, none⟩ = some (.int .u32 (z.W.ia : Nat)) ∧ w.cell? ⟨b, o + 7, none⟩ = some (.int .u16 (z.W.ib : Nat)) ∧ w.cell? ⟨b, o + 8, none⟩ = some (.int .u32 (z.W.ip : Nat)) ∧ w.cell? ⟨b, o + 9, none⟩ = some (.int .u16 (z.W.fr : Nat)) ∧ w.cell? ⟨b, o + 10, none⟩ = some (.int .u16 (z.W.tu : Nat)) ∧ w.cell? ⟨b, o + 11, none⟩ = some (.int .u16 (z.W.dr : Nat)) ∧ w.cell? ⟨b, o + 12, none⟩ = some (.int .u32 (z.fa : Nat)) ∧ w.cell? ⟨b, o + 13, none⟩ = some (.int .u16 (z.fb : Nat)) :=
  ⟨h 0 (by omega), h 1 (by omega), h 2 (by omega), h 3 (by omega), h 4 (by omega), h 5 (by omega), h 6 (by omega), h 7 (by omega), h 8 (by omega), h 9 (by omega), h 10 (by omega), h 11 (by omega), h 12 (by omega), h 13 (by omega)⟩
theorem ac_cells {w : World} {b : Nat} {z : ActP} (h : w.rowIs b 50 14 (acF z)) : w.cell? ⟨b, 0, none⟩ = some (.int .u8 (z.k : Nat)) ∧ w.cell? ⟨b, 1, none⟩ = some (.int .u8 (z.pr : Nat)) ∧ w.cell? ⟨b, 2, none⟩ = some (.int .u8 (z.i : Nat)) ∧ w.cell? ⟨b, 3, none⟩ = some (.int .u8 (z.o : Nat)) ∧ w.cell? ⟨b, 4, none⟩ = some (.int .u8 (z.s : Nat)) ∧ w.cell? ⟨b, 5, none⟩ = some (.int .u8 (z.W.p : Nat)) ∧ w.cell? ⟨b, 6, none⟩ = some (.int .u32 (z.W.ia : Nat)) ∧ w.cell? ⟨b, 7, none⟩ = some (.int .u16 (z.W.ib : Nat)) ∧ w.cell? ⟨b, 8, none⟩ = some (.int .u32 (z.W.ip : Nat)) ∧ w.cell? ⟨b, 9, none⟩ = some (.int .u16 (z.W.fr : Nat)) ∧ w.cell? ⟨b, 10, none⟩ = some (.int .u16 (z.W.tu : Nat)) ∧ w.cell? ⟨b, 11, none⟩ = some (.int .u16 (z.W.dr : Nat)) ∧ w.cell? ⟨b, 12, none⟩ = some (.int .u32 (z.fa : Nat)) ∧ w.cell? ⟨b, 13, none⟩ = some (.int .u16 (z.fb : Nat)) :=
  ⟨h.cell (i := 0) (by omega), h.cell (i := 1) (by omega), h.cell (i := 2) (by omega), h.cell (i := 3) (by omega), h.cell (i := 4) (by omega), h.cell (i := 5) (by omega), h.cell (i := 6) (by omega), h.cell (i := 7) (by omega), h.cell (i := 8) (by omega), h.cell (i := 9) (by omega), h.cell (i := 10) (by omega), h.cell (i := 11) (by omega), h.cell (i := 12) (by omega), h.cell (i := 13) (by omega)⟩
theorem results_cell_one {fn : Func} {p : Tmp} {ty : TypeId} (h : fn.results = #[.cell p ty]) (tmps : Array Value) (P : Program) (w : World) :
    (results fn tmps).run P w = ((asAddr (tmps.getD p undef)).run P w).andThen fun a w₁ => (loadVar ty a).run P w₁ := by
  simp only [results, h]
  simp [Sem.run_bind, Result.andThen]
/-- An act's wish of few, its outer endpoint of few. -/
def small (z : ActP) : Ws := ⟨z.pr % 3, z.i % 3, 10 + z.i / 3 % 8, 90 + z.o % 2, 10 + z.s % 4, 10 + z.s % 4 + z.s / 4 % 6, z.W.dr⟩
def pntA (z : ActP) : Nat := 90 + z.o % 2
def pntB (z : ActP) : Nat := 10 + z.o / 2 % 10
theorem small_ok (z : ActP) (h : z.Ok) : (small z).Ok :=
  ⟨by show z.pr % 3 < 256; omega, by show z.i % 3 < _; omega, by show 10 + z.i / 3 % 8 < _; omega, by show 90 + z.o % 2 < _; omega, by show 10 + z.s % 4 < _; omega, by show 10 + z.s % 4 + z.s / 4 % 6 < _; omega, h.W.dr⟩
set_option maxRecDepth 100000 in
theorem Small_any (w : World) (z : ActP) (hz : z.Ok) : Calls Try.prog 16 #[actv z] w (Told (wv (small z)) w) := by
  obtain ⟨p, hp, hp'⟩ : ∃ p : Nat, (z.pr : Int) % 3 = p ∧ z.pr % 3 = p := ⟨z.pr % 3, by omega, rfl⟩
  obtain ⟨a, ha, ha'⟩ : ∃ p : Nat, (z.i : Int) % 3 = p ∧ z.i % 3 = p := ⟨z.i % 3, by omega, rfl⟩
  obtain ⟨q, hq, hq'⟩ : ∃ p : Nat, (z.i : Int) / 3 % 8 = p ∧ z.i / 3 % 8 = p := ⟨z.i / 3 % 8, by omega, rfl⟩
  obtain ⟨o2, ho, ho'⟩ : ∃ p : Nat, (z.o : Int) % 2 = p ∧ z.o % 2 = p := ⟨z.o % 2, by omega, rfl⟩
  obtain ⟨s4, hs, hs'⟩ : ∃ p : Nat, (z.s : Int) % 4 = p ∧ z.s % 4 = p := ⟨z.s % 4, by omega, rfl⟩
  obtain ⟨d6, hd, hd'⟩ : ∃ p : Nat, (z.s : Int) / 4 % 6 = p ∧ z.s / 4 % 6 = p := ⟨z.s / 4 % 6, by omega, rfl⟩
  have hz1 := hz.i
  have hz2 := hz.s
  have hq2 : (z.i : Int) / 3 % 256 % 8 = q := by omega
  have hd2 : (z.s : Int) / 4 % 256 % 6 = d6 := by omega
  have q8 : q < 8 := by omega
  have o2l : o2 < 2 := by omega
  have s4l : s4 < 4 := by omega
  have d6l : d6 < 6 := by omega
  have a3 : a < 3 := by omega
  have hV : wv (small z) = .agg #[.int .u8 p, .int .u32 a, .int .u16 (10 + q), .int .u32 (90 + o2), .int .u16 (10 + s4), .int .u16 (10 + s4 + d6), .int .u16 (z.W.dr : Nat)] := by
    simp [wv, wcells, small, hp', ha', hq', ho', hs', hd']
  rw [hV]
  have g1 : IntKind.u16.wrap ((10 : Int) + q) = 10 + q := IntWalk.u16_in _ (by omega)
  have g3 : IntKind.u16.wrap ((10 : Int) + s4) = 10 + s4 := IntWalk.u16_in _ (by omega)
  have g4 : IntKind.u16.wrap ((10 : Int) + s4 + d6) = 10 + s4 + d6 := IntWalk.u16_in _ (by omega)
  clear hV hp' ha' hq' ho' hs' hd'
  obtain ⟨d0, d1, d2, d3, d4, d5, d6', d7, d8, d9, d10, d11, d12, d13⟩ := ac_cells (new_ac w z)
  go_enter Try.func16, Try.ntmps16
  go_wp2
  (try simp only [Exit.inBlock, Exit.then])
  refine bodyPost_ret (v := .agg #[.int .u8 p, .int .u32 a, .int .u16 (10 + q), .int .u32 (90 + o2), .int .u16 (10 + s4), .int .u16 (10 + s4 + d6), .int .u16 (z.W.dr : Nat)]) ?_ rfl ⟨rfl, ?_⟩
  · rw [results_cell_one rfl]
    go_simp
  · exact (((Upto.refl NoS w).alloc _).alloc _).alloc _
set_option maxRecDepth 100000 in
theorem Point_any (w : World) (z : ActP) (hz : z.Ok) : Calls Try.prog 17 #[actv z] w (Told (ev (pntA z) (pntB z)) w) := by
  obtain ⟨o2, ho, ho'⟩ : ∃ p : Nat, (z.o : Int) % 2 = p ∧ z.o % 2 = p := ⟨z.o % 2, by omega, rfl⟩
  obtain ⟨q, hq, hq'⟩ : ∃ p : Nat, (z.o : Int) / 2 % 10 = p ∧ z.o / 2 % 10 = p := ⟨z.o / 2 % 10, by omega, rfl⟩
  have hz1 := hz.o
  have hq2 : (z.o : Int) / 2 % 256 % 10 = q := by omega
  have q8 : q < 10 := by omega
  have o2l : o2 < 2 := by omega
  have hV : ev (pntA z) (pntB z) = .agg #[.int .u32 (90 + o2), .int .u16 (10 + q)] := by simp [pntA, pntB, ho', hq']
  rw [hV]
  have g1 : IntKind.u16.wrap ((10 : Int) + q) = 10 + q := IntWalk.u16_in _ (by omega)
  clear hV ho' hq'
  obtain ⟨d0, d1, d2, d3, d4, d5, d6', d7, d8, d9, d10, d11, d12, d13⟩ := ac_cells (new_ac w z)
  go_enter Try.func17, Try.ntmps17
  go_wp2
  (try simp only [Exit.inBlock, Exit.then])
  refine bodyPost_ret (v := .agg #[.int .u32 (90 + o2), .int .u16 (10 + q)]) ?_ rfl ⟨rfl, ?_⟩
  · rw [results_cell_one rfl]
    go_simp
  · exact ((Upto.refl NoS w).alloc _).alloc _
end Go.Proofs.Ytfiblchdfacdiaa
