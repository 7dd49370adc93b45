/- The reference's Doc and May; the inner endpoints that PortsTried fixes. -/
import Derived.Test.YtfiblchdfacdiaaRefT
namespace Go.Proofs.Ytfiblchdfacdiaa
open Go Go.RowKit Go.Deep Go.Maps

theorem res_wd {fn : Func} {p : Tmp} (h : fn.results = #[.cell p 34]) (tmps : Array Value) {w : World} {k : Nat} {W : Ws} (hp : tmps.getD p undef = .pointer (some ⟨k, 0, none⟩)) (hR : w.rowIs k 34 7 (wF W)) :
    (results fn tmps).run Try.prog w = .ok (wv W) w := by
  obtain ⟨d0, d1, d2, d3, d4, d5, d6⟩ := wd_cells hR
  have hp' : tmps[p]?.getD undef = .pointer (some ⟨k, 0, none⟩) := by simpa using hp
  simp [results, h, go_sem, hp', d0, d1, d2, d3, d4, d5, d6]
theorem Doc_any (w : World) (W : Ws) : Calls Try.prog 11 #[wv W] w (Told (wv W) w) := by
  have hR := new_ws w W
  have hR1 := hR.alloc (.cells #[.int .u8 0, .int .u32 0, .int .u16 0, .int .u32 0, .int .u16 0, .int .u16 0, .int .u16 0] 34)
  obtain ⟨d0, d1, d2, d3, d4, d5, d6⟩ := ws_cells hR
  obtain ⟨e0, e1, e2, e3, e4, e5, e6⟩ := ws_cells hR1
  have hN := new_wd (w.alloc (.cells (wcells W) 28)) W
  rw [World.size_alloc] at hN
  go_enter Try.func11, Try.ntmps11
  go_wp2
  exact bodyPost_ret (res_wd Try.results11 _ rfl hN) rfl ⟨rfl, ((Upto.refl _ _).alloc _).alloc _⟩
theorem RMay_any (w : World) (W : Ws) (q : Bool) (hq : decide (1 ≤ W.fr ∧ W.fr ≤ W.tu) = q) :
    Calls Try.prog 10 #[wv W] w (Told (.bool q) w) := by
  have hR0 := new_wd w W
  obtain ⟨d0, d1, d2, d3, d4, d5, d6⟩ := wd_cells hR0
  subst hq
  by_cases g1 : 1 ≤ W.fr
  · have b1 : decide ((0 : Int) < W.fr) = true := decide_eq_true (by omega)
    by_cases g2 : W.fr ≤ W.tu
    · rw [decide_eq_true ⟨g1, g2⟩]
      have b2 : decide ((W.fr : Int) ≤ W.tu) = true := decide_eq_true (by omega)
      go_enter Try.func10, Try.ntmps10
      go_wp2
      go_ret
      exact ⟨rfl, (Upto.refl _ _).alloc _⟩
    · rw [decide_eq_false (fun h => g2 h.2)]
      have b2 : decide ((W.fr : Int) ≤ W.tu) = false := decide_eq_false (by omega)
      go_enter Try.func10, Try.ntmps10
      go_wp2
      go_ret
      exact ⟨rfl, (Upto.refl _ _).alloc _⟩
  · rw [decide_eq_false (fun h => g1 h.1)]
    have b1 : decide ((0 : Int) < W.fr) = false := decide_eq_false (by omega)
    go_enter Try.func10, Try.ntmps10
    go_wp2
    go_ret
    exact ⟨rfl, (Upto.refl _ _).alloc _⟩

/-- Numbers of sixteen bits that come in. -/
def NumsAt (w : World) (a : Option Addr) (len : Nat) (z : Nat → Nat) : Prop :=
  ∀ j, j < len → z j < 65536 ∧ ∃ bo off, a = some ⟨bo, off, none⟩ ∧ bo < w.heap.size ∧ w.cell? ⟨bo, off + j, none⟩ = some (.int .u16 (z j : Nat))

/-- Rows that are others': all of the wish's protocol and outer address, the j-th inner address j further on. -/
structure Oth (W : Ws) (j : Nat) (T : List (Rw × Nat)) : Prop where
  each : ∀ r ∈ T, r.1.p = W.p ∧ r.1.oa = W.ip ∧ ∃ k, 1 ≤ k ∧ k ≤ j ∧ r.1.ia = (W.ia + k) % 4294967296
  many : T.length ≤ j
theorem Oth.noI {W : Ws} {j : Nat} {T : List (Rw × Nat)} (h : Oth W j T) (hj : j ≤ 40) (hW : W.Ok) {k : Nat} (hk : k = 0 ∨ j < k) (hk2 : k ≤ 41) : fI T W.p ((W.ia + k) % 4294967296) W.ib = none := by
  refine List.find?_eq_none.2 fun r hr => ?_
  obtain ⟨_, _, m, h1, h2, h3⟩ := h.each r hr
  have := hW.ia
  have hne : ¬ r.1.ia = (W.ia + k) % 4294967296 := by rw [h3]; omega
  simp [hne]
theorem Oth.own {W : Ws} {j : Nat} {T : List (Rw × Nat)} (h : Oth W j T) (hj : j ≤ 40) (hW : W.Ok) : fI T W.p W.ia W.ib = none := by
  have := h.noI hj hW (k := 0) (.inl rfl) (by omega)
  rwa [Nat.add_zero, Nat.mod_eq_of_lt hW.ia] at this
theorem Oth.next {W : Ws} {j : Nat} {T : List (Rw × Nat)} (h : Oth W j T) : Oth W (j + 1) T :=
  ⟨fun r hr => by obtain ⟨a, b, k, h1, h2, h3⟩ := h.each r hr; exact ⟨a, b, k, h1, by omega, h3⟩, by have := h.many; omega⟩
theorem Oth.add {W : Ws} {j : Nat} {T : List (Rw × Nat)} (h : Oth W j T) (q b k : Nat) : Oth W (j + 1) (T ++ [(newR W.p W.ip q ((W.ia + (j + 1)) % 4294967296) b, k)]) := by
  refine ⟨fun r hr => ?_, by have := h.many; simp; omega⟩
  rcases List.mem_append.1 hr with hr | hr
  · exact h.next.each r hr
  · simp at hr
    subst hr
    exact ⟨rfl, rfl, j + 1, by omega, Nat.le_refl _, rfl⟩
theorem Oth.not_own {W : Ws} {j : Nat} {T : List (Rw × Nat)} (h : Oth W j T) (hj : j ≤ 40) (hW : W.Ok) {r : Rw × Nat} (hr : r ∈ T) : ¬ r.1.ia = W.ia := by
  obtain ⟨_, _, m, h1, h2, h3⟩ := h.each r hr
  have := hW.ia
  omega
theorem fO_append (T : List (Rw × Nat)) (s : Rw × Nat) (p a b : Nat) : fO (T ++ [s]) p a b = (fO T p a b).or (if s.1.p == p && s.1.oa == a && s.1.ob == b then some s else none) := by
  unfold fO
  rw [List.find?_append]
  congr 1
  simp only [List.find?_cons, List.find?_nil]
  cases (s.1.p == p && s.1.oa == a && s.1.ob == b) <;> rfl
end Go.Proofs.Ytfiblchdfacdiaa
