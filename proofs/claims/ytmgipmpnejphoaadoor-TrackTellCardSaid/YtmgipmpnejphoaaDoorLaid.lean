/- What the laid table gives the walks; the steps that come in, opened to cells. -/
import Derived.Test.YtmgipmpnejphoaaDoorRun
import Derived.ProofKit
import Derived.LaidMore
import Derived.OpenShut
import Derived.Stop.Joined
import Derived.Deep.Slices
import Derived.ChangeSame
namespace Go.Proofs.YtmgipmpnejphoaaDoor
open Go Go.ChangeShapes Go.WideShapes Go.ChangeAt Go.RowKit Go.Deep

theorem gLasts : Tryd.prog.globalNamed "porter/track.lasts" = some 0 := by kernel_rfl
theorem tLasts : (Tryd.prog.globals[0]?).map (·.type) = some 41 := by kernel_rfl
abbrev laid1 : List (String × DataW Unit) := [("porter/track.lasts", Rows.laid_porter_track_lasts)]
theorem door_met (os : Os) (args : Array Value) : laidMetH Tryd.prog laid1 ((World.doorLaid Tryd.prog 400 os).forCall (fun _ _ => 0) ⟨#[], args, []⟩).memory :=
  laidMetH_of_parts3 (fuel := 8) (laidMet_of_run' 8 (by kernel_rfl) (by kernel_rfl)) (by kernel_rfl) (by kernel_rfl)

section
variable {H : Type} {enc : TypeId × Value → H} {w : World} {base : Nat} {spare : Nat → Bool} {held : Bool}
theorem take1 {cs : List Value} {j : Nat} {c : Value} (h : (cs.drop j).take 1 = [c]) : cs[j]? = some c := by
  have h2 : ((cs.drop j).take 1)[0]? = some c := by rw [h]; rfl
  simpa using h2
theorem arr_at {t : TypeId} {n fuel : Nat} {cs : List Value} {D : List (DataW H)} {p : List MemPlace} (ht : Tryd.prog.underlying t = some (.array n 3)) (h : DataW.trod enc Tryd.prog w base spare held fuel t cs = some (.agg D, p))
    (j : Nat) (hj : j < n) (m : Int) (hD : D[j]? = some (.lit (.int .i64 m))) : cs[j]? = some (.int .i64 m) := by
  obtain ⟨xs, m1, _, hx, _, hlen, hel⟩ := DataW.trod_array ht h
  have k3 : Tryd.prog.cellsOf 3 = 1 := by kernel_rfl
  have h1 := hel j hj
  rw [k3, Nat.mul_one] at h1
  have hxj : xs[j]? = some (xs[j]'(by omega)) := List.getElem?_eq_getElem (by omega)
  rw [hxj] at h1
  obtain ⟨k, e1, e2, _⟩ := DataW.trod_int Tryd.underlying3 h1
  simp only [Prod.mk.injEq, DataW.agg.injEq] at hx
  rw [hx.1, List.getElem?_map, hxj, e2] at hD
  simp at hD
  subst hD
  exact take1 e1
end

theorem key (f s : Nat) (hf : f < 4) (hs : s < 8) : ∃ D : List (DataW Unit), ∃ E : List (DataW Unit), (Rows.laid_porter_track_lasts : DataW Unit) = .agg D ∧ D[f]? = some (.agg E) ∧ E[s]? = some (.lit (.int .i64 (timeoutI f s))) := by
  match f, s, hf, hs with
  | 0, 0, _, _ => exact ⟨_, _, rfl, rfl, rfl⟩
  | 0, 1, _, _ => exact ⟨_, _, rfl, rfl, rfl⟩
  | 0, 2, _, _ => exact ⟨_, _, rfl, rfl, rfl⟩
  | 0, 3, _, _ => exact ⟨_, _, rfl, rfl, rfl⟩
  | 0, 4, _, _ => exact ⟨_, _, rfl, rfl, rfl⟩
  | 0, 5, _, _ => exact ⟨_, _, rfl, rfl, rfl⟩
  | 0, 6, _, _ => exact ⟨_, _, rfl, rfl, rfl⟩
  | 0, 7, _, _ => exact ⟨_, _, rfl, rfl, rfl⟩
  | 1, 0, _, _ => exact ⟨_, _, rfl, rfl, rfl⟩
  | 1, 1, _, _ => exact ⟨_, _, rfl, rfl, rfl⟩
  | 1, 2, _, _ => exact ⟨_, _, rfl, rfl, rfl⟩
  | 1, 3, _, _ => exact ⟨_, _, rfl, rfl, rfl⟩
  | 1, 4, _, _ => exact ⟨_, _, rfl, rfl, rfl⟩
  | 1, 5, _, _ => exact ⟨_, _, rfl, rfl, rfl⟩
  | 1, 6, _, _ => exact ⟨_, _, rfl, rfl, rfl⟩
  | 1, 7, _, _ => exact ⟨_, _, rfl, rfl, rfl⟩
  | 2, 0, _, _ => exact ⟨_, _, rfl, rfl, rfl⟩
  | 2, 1, _, _ => exact ⟨_, _, rfl, rfl, rfl⟩
  | 2, 2, _, _ => exact ⟨_, _, rfl, rfl, rfl⟩
  | 2, 3, _, _ => exact ⟨_, _, rfl, rfl, rfl⟩
  | 2, 4, _, _ => exact ⟨_, _, rfl, rfl, rfl⟩
  | 2, 5, _, _ => exact ⟨_, _, rfl, rfl, rfl⟩
  | 2, 6, _, _ => exact ⟨_, _, rfl, rfl, rfl⟩
  | 2, 7, _, _ => exact ⟨_, _, rfl, rfl, rfl⟩
  | 3, 0, _, _ => exact ⟨_, _, rfl, rfl, rfl⟩
  | 3, 1, _, _ => exact ⟨_, _, rfl, rfl, rfl⟩
  | 3, 2, _, _ => exact ⟨_, _, rfl, rfl, rfl⟩
  | 3, 3, _, _ => exact ⟨_, _, rfl, rfl, rfl⟩
  | 3, 4, _, _ => exact ⟨_, _, rfl, rfl, rfl⟩
  | 3, 5, _, _ => exact ⟨_, _, rfl, rfl, rfl⟩
  | 3, 6, _, _ => exact ⟨_, _, rfl, rfl, rfl⟩
  | 3, 7, _, _ => exact ⟨_, _, rfl, rfl, rfl⟩

theorem of_laid {W : World} (h : laidMetH Tryd.prog laid1 W) : Tab W := by
  rw [MakeChecks.laidMetH_plain _ _ _ (by kernel_rfl)] at h
  obtain ⟨ps, ⟨g0, t0, cs0, f0, p0, q0, hg0, ht0, hv0, hd0, _, _⟩, _, _⟩ := h
  obtain rfl := Option.some.inj (gLasts.symm.trans hg0)
  obtain rfl := Option.some.inj (tLasts.symm.trans ht0)
  have all : ∀ f s : Nat, f < 4 → s < 8 → W.cell? ⟨0, f * 8 + s, none⟩ = some (.int .i64 (timeoutI f s)) := by
    intro f s hf hs
    obtain ⟨D, E, e0, e1, e2⟩ := key f s hf hs
    obtain ⟨xs, m1, _, hx1, _, hn, hel⟩ := DataW.trod_array Tryd.underlying41 hd0
    have k40 : Tryd.prog.cellsOf 40 = 8 := by kernel_rfl
    have h0 := hel f hf
    rw [k40] at h0
    simp only [Prod.mk.injEq] at hx1
    have hD : D = xs.map (·.1) := by
      have := e0.symm.trans hx1.1
      simpa using this
    have hxf : xs[f]? = some (xs[f]'(by omega)) := List.getElem?_eq_getElem (by omega)
    rw [hD, List.getElem?_map, hxf] at e1
    simp only [Option.map_some, Option.some.injEq] at e1
    rw [hxf] at h0
    have hpr : xs[f]'(by omega) = (.agg E, (xs[f]'(by omega)).2) := Prod.ext e1 rfl
    rw [hpr] at h0
    have hc := arr_at Tryd.underlying40 h0 s hs _ e2
    rw [List.getElem?_take_of_lt hs, List.getElem?_drop] at hc
    have := World.var?_cell hg0 hv0 (f * 8 + s)
    rw [this, ← Array.getElem?_toList]
    exact hc
  exact ⟨Nat.lt_of_le_of_lt (Nat.zero_le _) (World.block_lt_of_cell? W _ (all 0 0 (by omega) (by omega))), all⟩

section
variable {H : Type} {enc : TypeId × Value → H} {w : World} {base : Nat} {spare : Nat → Bool} {held : Bool}
/-- One step, read. -/
theorem open_step {fuel : Nat} {cs : List Value} {x : DataW H × List MemPlace} (h : DataW.trod enc Tryd.prog w base spare held fuel 27 cs = some x) :
    ∃ y : Bool × Nat, y.2 < 256 ∧ cs = [.bool y.1, .int .u8 (y.2 : Nat)] := by
  obtain ⟨xs, n, _, hx, hl, hlen, hf⟩ := DataW.trod_struct Tryd.underlying27 h
  have hl2 : cs.length = 2 := hl.trans (by kernel_rfl)
  match cs, hl2, xs, hlen with
  | [c0, c1], _, [x0, x1], _ =>
    have k4 : Tryd.prog.cellsOf 4 = 1 := by kernel_rfl
    have k5 : Tryd.prog.cellsOf 5 = 1 := by kernel_rfl
    have h0 : DataW.trod enc Tryd.prog w base spare held n 4 [c0] = some x0 := by have this : DataW.trod enc Tryd.prog w base spare held n 4 (List.take (Tryd.prog.cellsOf 4) (List.drop 0 [c0, c1])) = some x0 := hf 0 _ rfl; rw [k4] at this; exact this
    have h1 : DataW.trod enc Tryd.prog w base spare held n 5 [c1] = some x1 := by have this : DataW.trod enc Tryd.prog w base spare held n 5 (List.take (Tryd.prog.cellsOf 5) (List.drop 1 [c0, c1])) = some x1 := hf 1 _ rfl; rw [k5] at this; exact this
    obtain ⟨b0, e0, _⟩ := DataW.trod_bool Tryd.underlying4 h0
    obtain ⟨n1, e1, _, g1⟩ := DataW.trod_int Tryd.underlying5 h1
    simp at e0 e1
    subst e0; subst e1
    have b1 := bounds_u8 g1
    refine ⟨⟨b0, n1.toNat⟩, by show n1.toNat < 256; omega, ?_⟩
    show _ = [Value.bool b0, Value.int .u8 ((n1.toNat : Nat) : Int)]
    rw [Int.toNat_of_nonneg (by omega)]

/-- The steps that come in. -/
theorem open_steps {fuel : Nat} {a : Option Addr} {len cap : Nat} {x : DataW H × List MemPlace} (h : DataW.trod enc Tryd.prog w base spare held fuel 22 [.slice a len cap] = some x) :
    len ≤ cap ∧ cap ≤ 9223372036854775807 ∧ ∃ z : Nat → Bool × Nat, StepsAt w a len z := by
  rcases open_slice Tryd.underlying22 h with ⟨hcs, _⟩ | ⟨p, l, c, m, n, D, Pl, hcs, hb, hl, hm, hmm, _, hi⟩
  · simp only [List.cons.injEq, Value.slice.injEq, and_true] at hcs
    obtain ⟨rfl, rfl, rfl⟩ := hcs
    exact ⟨by omega, by omega, fun _ => (false, 0), fun k hk => by omega⟩
  · simp only [List.cons.injEq, Value.slice.injEq, and_true] at hcs
    obtain ⟨rfl, rfl, rfl⟩ := hcs
    refine ⟨hl, by unfold maxLen at hm; omega, ?_⟩
    have k27 : Tryd.prog.cellsOf 27 = 2 := by kernel_rfl
    obtain ⟨b, off, spot⟩ := p
    have hlm : len ≤ m := by rw [hmm]; split <;> omega
    have all : ∀ k, ∃ y : Bool × Nat, k < len → y.2 < 256 ∧ ∃ b' off', some (⟨b, off, spot⟩ : Addr) = some ⟨b', off', none⟩ ∧ b' < w.heap.size ∧ w.cell? ⟨b', off' + k * 2, none⟩ = some (.bool y.1) ∧ w.cell? ⟨b', off' + k * 2 + 1, none⟩ = some (.int .u8 (y.2 : Nat)) := by
      intro k
      by_cases hk : k < len
      · obtain ⟨cs, hc, ht⟩ := hi k (by omega)
        rw [k27] at hc
        obtain ⟨y, hy, rfl⟩ := open_step ht
        obtain ⟨_, hcl, hat⟩ := World.cells?_some hc
        refine ⟨y, fun _ => ⟨hy, ?_⟩⟩
        have c0 := hat 0 (by omega)
        have c1 := hat 1 (by omega)
        have hspot : spot = none := by
          obtain ⟨cs2, hc2, ht2⟩ := hi 0 (by omega)
          obtain ⟨_, _, rfl⟩ := open_step ht2
          obtain ⟨_, _, hat2⟩ := World.cells?_some hc2
          have d0 := hat2 0 (by rw [k27]; omega)
          simpa [Addr.add] using World.cell?_spot d0
        subst hspot
        simp only [Addr.add_lit, Nat.add_zero] at c0 c1
        exact ⟨b, off, rfl, World.block_lt_of_cell? w _ c0, c0, c1⟩
      · exact ⟨(false, 0), fun h => absurd h hk⟩
    exact ⟨fun k => Classical.choose (all k), fun k hk => Classical.choose_spec (all k) hk⟩
end
end Go.Proofs.YtmgipmpnejphoaaDoor
