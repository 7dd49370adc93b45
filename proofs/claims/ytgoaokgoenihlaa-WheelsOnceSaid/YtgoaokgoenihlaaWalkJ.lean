/- The law's same and handle, walked; wheels that a call has made itself. -/
import Derived.Test.YtgoaokgoenihlaaWalkH
import Derived.Test.YtgoaokgoenihlaaWalkI
namespace Go.Proofs.Ytgoaokgoenihlaa
open Go Go.RowKit Go.Deep Go.Maps

/-! ### Rows of handles -/
theorem hcl_length (L : List Hn) : (hcl L).length = L.length * 2 := by
  induction L with
  | nil => rfl
  | cons p l ih => simp only [hcl, List.flatMap_cons, List.length_append, List.length_cons, List.length_nil] at ih ⊢; omega
def hs (L : List Hn) (j : Nat) : Int := (L.getD j ⟨0, 0⟩).s
def hg (L : List Hn) (j : Nat) : Nat := (L.getD j ⟨0, 0⟩).g
abbrev hAt (L : List Hn) (j : Nat) : Hn := ⟨hs L j, hg L j⟩
theorem hn_at (L : List Hn) (j : Nat) (h : j < L.length) : hAt L j = L[j] := by show (⟨hs L j, hg L j⟩ : Hn) = L[j]; simp [hs, hg, h]
theorem hcl_at (L : List Hn) (j : Nat) (h : j < L.length) : (hcl L)[j * 2]? = some (.int .i64 (hs L j)) ∧ (hcl L)[j * 2 + 1]? = some (.int .u32 (hg L j : Nat)) := by
  induction L generalizing j with
  | nil => simp at h
  | cons p l ih =>
    cases j with
    | zero => exact ⟨rfl, rfl⟩
    | succ j =>
      have := ih j (by simpa using h)
      rw [show (j + 1) * 2 = j * 2 + 2 from by omega]
      simpa [hcl, hs, hg] using this
theorem own_hcl {w : World} {base e q m c : Nat} {L : List Hn} (h : w.ownsRow base e 2 (.slice (some ⟨q, 0, none⟩) m c) m (hcl L)) (j : Nat) (hj : j < L.length) :
    w.cell? ⟨q, j * 2, none⟩ = some (.int .i64 (hs L j)) ∧ w.cell? ⟨q, j * 2 + 1, none⟩ = some (.int .u32 (hg L j : Nat)) := by
  have c1 := h.cells (g := q) rfl (j * 2) _ (hcl_at L j hj).1
  have c2 := h.cells (g := q) rfl (j * 2 + 1) _ (hcl_at L j hj).2
  rw [Addr.add_lit, Nat.zero_add] at c1 c2
  exact ⟨c1, c2⟩
theorem ne31 (w : World) (a b : Hn) : (binOp .neq 31 (hv a) (hv b)).run Try.prog w = .ok (.bool (!(a == b))) w := by
  have u3 := Try.underlying3
  have u29 := Try.underlying29
  have a3 := Try.isAgg3
  have z3 := Try.sizeOf3
  have a29 := Try.isAgg29
  have z29 := Try.sizeOf29
  have hS : Try.prog.underlying 31 = some (.struct (Try.prog.fieldsOf 31)) := by kernel_rfl
  have hp : Try.prog.stoodInHeld 31 = false := by kernel_rfl
  rw [run_neq_struct, show (10000 : Nat) = 9999 + 1 from rfl, run_equalIn_agg w 9999 31 _ _ hS hp]
  simp only [Program.fieldsOf, Try.underlying31]
  go_simp
  obtain ⟨s, g⟩ := a
  obtain ⟨s', g'⟩ := b
  have e : ((⟨s, g⟩ : Hn) == ⟨s', g'⟩) = (s == s' && (g : Int) == (g' : Int)) := by
    rw [Bool.eq_iff_iff]; simp; omega
  rw [e]
  by_cases h1 : s = s' <;> by_cases h2 : (g : Int) = g' <;> simp [h1, h2]
theorem guardn31 (w : World) (x y : Operand) (a b : Hn) : (eqGuard .neq 31 x y (hv a) (hv b)).run Try.prog w = .ok () w := run_eqGuard_agg w .neq 31 x y _ _ (by kernel_rfl)
theorem drewN_two (w : World) (n k : Nat) : (w.drewN n).drewN k = w.drewN (n + k) := by unfold World.drewN; simp [Nat.add_assoc]
theorem drewN_add (w : World) (n k : Nat) : ∃ m, (w.drewN n).drewN k = w.drewN m := ⟨n + k, drewN_two w n k⟩
/-- Are two rows of handles the same? -/
theorem list_eq_of {A B : List Hn} (hl : A.length = B.length) (h : ∀ j, j < A.length → hAt A j = hAt B j) : A = B :=
  List.ext_getElem hl fun j h1 h2 => by rw [← hn_at A j h1, ← hn_at B j h2]; exact h j h1
theorem len_zero_form {w : World} {base e : Nat} {v : Value} {L : List Hn} (h : w.ownsRow base e 2 v L.length (hcl L)) : ∃ a c, v = .slice a L.length c ∧ (0 < L.length → ∃ q, a = some ⟨q, 0, none⟩) := own_slice h
def SameP (q : Bool) (w : World) (e : Ending) (w' : World) : Prop := e = .returned (.bool q) ∧ ∃ n, w' = w.drewN n
set_option maxRecDepth 100000 in
set_option maxHeartbeats 1000000 in
theorem same_any (w : World) (ba bb ea eb : Nat) (va vb : Value) (A B : List Hn) (ha : w.ownsRow ba ea 2 va A.length (hcl A)) (hb : w.ownsRow bb eb 2 vb B.length (hcl B)) (hA : A.length ≤ 1000000) (hB : B.length ≤ 1000000) :
    Calls Try.prog 16 #[va, vb] w (SameP (decide (A = B)) w) := by
  obtain ⟨aa, ca, rfl, fa⟩ := len_zero_form ha
  obtain ⟨ab, cb, rfl, fb⟩ := len_zero_form hb
  by_cases hl : A.length = B.length
  · have HL := Lib.hid hl
    rw [← hl] at hb fb
    rw [← hl]
    have HFA := Lib.hid fa
    have HFB := Lib.hid fb
    have HHA := Lib.hid ha
    have HHB := Lib.hid hb
    clear ha hb fa fb hl
    go_enter Try.func16, Try.ntmps16
    go_wp2
    go_loopw [5] (fun i wr => ∃ (k n : Nat), k ≤ A.length ∧ i = .int .i64 k ∧ wr = w.drewN n ∧ Hid (∀ j, j < k → hAt A j = hAt B j)) (fun i _ => A.length - (intOf i).toNat)
    case atStart => exact ⟨0, 0, by omega, rfl, rfl, Lib.hid (fun j hj => by omega)⟩
    case round =>
      obtain ⟨k, n, hk, rfl, rfl, HE⟩ := hrel
      by_cases hlt : k < A.length
      · obtain ⟨qa, rfl⟩ := HFA.out (by omega)
        obtain ⟨qb, rfl⟩ := HFB.out (by omega)
        have kB : k < B.length := by rw [← HL.out]; exact hlt
        obtain ⟨s0, s1⟩ := own_hcl HHA.out k hlt
        obtain ⟨r0, r1⟩ := own_hcl HHB.out k kB
        have z0 : (0 : Int) ≤ (k : Int) := by omega
        have z1 : (k : Int) < (A.length : Int) := by omega
        have hne := fun w' => ne31 w' (hAt A k) (hAt B k)
        have hgu := fun w' x y => guardn31 w' x y (hAt A k) (hAt B k)
        cases hq : (hAt A k == hAt B k)
        · have HQ := Lib.hid hq
          rw [hq] at hne
          have hd : decide (A = B) = false := by
            rw [decide_eq_false_iff_not]
            intro e
            rw [e] at hq
            simp at hq
          have HD := Lib.hid hd
          clear hq hd
          go_wp2_with fail
          go_quiet (fail)
          go_wp2
          go_ret
          exact ⟨by rw [HD.out]; rfl, drewN_add w n _⟩
        · have HQ := Lib.hid hq
          rw [hq] at hne
          clear hq
          go_wp2_with fail
          go_quiet (fail)
          go_wp2
          go_roundw
          case rel => exact ⟨k + 1, n + nq, by omega, by go_num, (by first | rfl | exact drewN_two w n nq), Lib.hid (fun j hj => by
            by_cases e : j = k
            · subst e; have := HQ.out; simpa using this
            · exact HE.out j (by omega))⟩
          case measure => simp [intOf]; omega
      · obtain rfl : k = A.length := by omega
        have hd : decide (A = B) = true := decide_eq_true (list_eq_of HL.out HE.out)
        have HD := Lib.hid hd
        clear hd
        go_wp2
        go_ret
        exact ⟨by rw [HD.out]; rfl, n, rfl⟩
  · have hne : (A.length : Int) ≠ (B.length : Int) := by omega
    have hd : decide (A = B) = false := by
      rw [decide_eq_false_iff_not]; intro e; exact hl (by rw [e])
    rw [hd]
    clear hd
    go_enter Try.func16, Try.ntmps16
    go_wp2
    go_ret
    exact ⟨rfl, 0, rfl⟩
end Go.Proofs.Ytgoaokgoenihlaa
