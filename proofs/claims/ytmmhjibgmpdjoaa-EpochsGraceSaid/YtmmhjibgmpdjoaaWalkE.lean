/- slices.DeleteFunc at what waits, with over, walked. -/
import Derived.Test.YtmmhjibgmpdjoaaWalkC
namespace Go.Proofs.Ytmmhjibgmpdjoaa
open Go Go.RowKit Go.Deep Md

theorem pcl_set0 (H : List (Nat × Nat)) (i s : Nat) : (pcl H).set (i * 2) (.int .i64 (s : Nat)) = pcl (H.set i (s, (H.getD i (0, 0)).2)) := by
  induction H generalizing i with
  | nil => simp [pcl]
  | cons p l ih =>
    cases i with
    | zero => simp [pcl]
    | succ i =>
      have := ih i
      rw [show (i + 1) * 2 = i * 2 + 2 from by omega]
      simpa [pcl] using this
theorem pcl_set1 (H : List (Nat × Nat)) (i t : Nat) : (pcl H).set (i * 2 + 1) (.int .i64 (t : Nat)) = pcl (H.set i ((H.getD i (0, 0)).1, t)) := by
  induction H generalizing i with
  | nil => simp [pcl]
  | cons p l ih =>
    cases i with
    | zero => simp [pcl]
    | succ i =>
      have := ih i
      rw [show (i + 1) * 2 + 1 = i * 2 + 1 + 2 from by omega]
      simpa [pcl] using this
theorem pcl_take (H : List (Nat × Nat)) (i : Nat) : (pcl H).take (i * 2) = pcl (H.take i) := by
  induction H generalizing i with
  | nil => simp [pcl]
  | cons p l ih =>
    cases i with
    | zero => simp [pcl]
    | succ i =>
      have := ih i
      rw [show (i + 1) * 2 = i * 2 + 2 from by omega]
      simpa [pcl] using this
/-- Fewer of a row: the first ones. -/
theorem own_less {w : World} {base e q n c i : Nat} {xs : List Value} (h : w.ownsRow base e 2 (.slice (some ⟨q, 0, none⟩) n c) n xs) (hi : i ≤ n) : w.ownsRow base e 2 (.slice (some ⟨q, 0, none⟩) i c) i (xs.take (i * 2)) := by
  refine ⟨by rw [List.length_take, h.1]; omega, ?_⟩
  rcases h.2 with ⟨hv, _⟩ | ⟨g, cap, cur, hv, hb, hg, h1, h2, h3, h4⟩
  · simp at hv
  · simp only [Value.slice.injEq, Option.some.injEq, Addr.mk.injEq, and_true, true_and] at hv
    obtain ⟨rfl, rfl⟩ := hv
    exact .inr ⟨q, c, cur, rfl, hb, hg, by omega, h2, h3, by rw [← h4, List.take_take, Nat.min_eq_left (by omega)]⟩
/-- A pair is stored. -/
theorem own_put {w : World} {base e q n c i a b : Nat} {H : List (Nat × Nat)} (h : w.ownsRow base e 2 (.slice (some ⟨q, 0, none⟩) n c) n (pcl H)) (hi : i < H.length) :
    ((w.setCell ⟨q, i * 2, none⟩ (.int .i64 (a : Nat))).setCell ⟨q, i * 2 + 1, none⟩ (.int .i64 (b : Nat))).ownsRow base e 2 (.slice (some ⟨q, 0, none⟩) n c) n (pcl (H.set i (a, b))) := by
  have h1 := (h.stored (i * 2) (.int .i64 (a : Nat))).1
  rw [pcl_set0] at h1
  have h2 := (h1.stored (i * 2 + 1) (.int .i64 (b : Nat))).1
  rw [pcl_set1] at h2
  have e1 : ((H.set i (a, (H.getD i (0, 0)).2)).getD i (0, 0)).1 = a := by simp [hi]
  rw [e1, List.set_set] at h2
  exact h2
/-- Cells behind the first ones are stored: the first ones stand. -/
theorem own_tail {base e q n c k : Nat} : ∀ (vs : List Value) (o : Nat) (w : World) (xs : List Value), w.ownsRow base e 2 (.slice (some ⟨q, 0, none⟩) n c) n xs → k ≤ o → ∃ ys, (w.setCells q o vs).ownsRow base e 2 (.slice (some ⟨q, 0, none⟩) n c) n ys ∧ ys.take k = xs.take k
  | [], _, _, xs, h, _ => ⟨xs, h, rfl⟩
  | v :: r, o, w, xs, h, hk => by
    obtain ⟨ys, h1, h2⟩ := own_tail (k := k) r (o + 1) _ _ (h.stored o v).1 (by omega)
    refine ⟨ys, h1, h2.trans ?_⟩
    rw [List.take_set_of_le hk]
theorem upto_cells (q : Nat) : ∀ (vs : List Value) (o : Nat) (w : World), Upto (· = q) w (w.setCells q o vs)
  | [], _, w => Upto.refl _ w
  | v :: r, o, w => ((Upto.refl (fun k => k = q) w).setB (b := q) (o := o) rfl v).trans (upto_cells q r (o + 1) _)

theorem run_clear2 (w : World) (b o n c : Nat) (hn : 0 < n) (ty : TypeId) (hc : ∀ j, j < n * 2 → (w.cell? ⟨b, o + j, none⟩).isSome = true) (hf : ∀ j, j < n * 2 → w.frozen? ⟨b, o + j, none⟩ = false) :
    (Builtin.clear_ #[42] ty #[.slice (some ⟨b, o, none⟩) n c]).run Try.prog w = .ok (.tuple #[]) (w.setCells b o (List.replicate (n * 2) (.int .i64 0))) := by
  have hzv : ∀ w, (zeroValue 59).run Try.prog w = .ok (.agg #[.int .i64 0, .int .i64 0]) w := fun _ => by kernel_rfl
  have hzc : (Builtin.zeroCells (Value.agg #[.int .i64 0, .int .i64 0]).cells n).toList = List.replicate (n * 2) (.int .i64 0) := by
    apply List.ext_getElem
    · simp [Builtin.zeroCells, Value.cells]
    · intro i h1 h2
      have h3 : i % 2 = 0 ∨ i % 2 = 1 := by omega
      rcases h3 with h3 | h3 <;> simp [Builtin.zeroCells, Value.cells, h3]
  have hst := run_storeCells_cells (P := Try.prog) b o (List.replicate (n * 2) (.int .i64 0)) 0 w (by simpa using hc) (by simpa using hf) (by intro v hv'; rw [List.eq_of_mem_replicate hv']; rfl)
  simp only [Nat.add_zero] at hst
  obtain ⟨m, rfl⟩ : ∃ m, n = m + 1 := ⟨n - 1, by omega⟩
  simp [Builtin.clear_, run_underlying Try.underlying42, hzv, hzc, hst]

/-- What DeleteFunc leaves: the first cells of the same row. -/
def DelPost (base : Nat) (v : Value) (H : List (Nat × Nat)) (now : Nat) (w : World) (e : Ending) (w' : World) : Prop :=
  ∃ v', e = .returned v' ∧ w'.ownsRow base 59 2 v' (H.filter fun p => !overB now p).length (pcl (H.filter fun p => !overB now p)) ∧ v'.ownBlock = v.ownBlock ∧ Upto (fun k => v.ownBlock = some k) w w'
theorem ov_at (now : Nat) (H : List (Nat × Nat)) (j : Nat) (h : j < H.length) : ovAt now H j = overB now H[j] := by simp [ovAt, overB, p2, h]
theorem filter_none {now : Nat} {H : List (Nat × Nat)} (hno : ∀ j, j < H.length → ovAt now H j = false) : H.filter (fun p => !overB now p) = H := by
  rw [List.filter_eq_self]
  intro p hp
  obtain ⟨j, hj, rfl⟩ := List.getElem_of_mem hp
  rw [← ov_at now H j hj, hno j hj]; rfl
theorem filter_step (now : Nat) (H : List (Nat × Nat)) (j : Nat) (h : j < H.length) : (H.take (j + 1)).filter (fun p => !overB now p) = (H.take j).filter (fun p => !overB now p) ++ (if ovAt now H j then [] else [H[j]]) := by
  rw [List.take_succ_eq_append_getElem h, List.filter_append, ov_at now H j h]
  cases hb : overB now H[j] <;> simp [hb]
theorem take_put (L : List (Nat × Nat)) (i : Nat) (x : Nat × Nat) (h : i < L.length) : (L.set i x).take (i + 1) = L.take i ++ [x] := by
  rw [List.take_succ_eq_append_getElem (by simpa using h), List.take_set_of_le (Nat.le_refl _)]
  simp
theorem pair_at (H : List (Nat × Nat)) (j : Nat) (h : j < H.length) : (p1 H j, p2 H j) = H[j] := by simp [p1, p2, h]
theorem pair_drop (L H : List (Nat × Nat)) (j : Nat) (h : L.drop j = H.drop j) (hj : j < H.length) : p1 L j = p1 H j ∧ p2 L j = p2 H j := by
  have h1 : L[j]? = H[j]? := by
    have := congrArg (fun l => l[0]?) h
    simpa using this
  unfold p1 p2 List.getD
  rw [h1]; exact ⟨rfl, rfl⟩

set_option maxRecDepth 100000 in
set_option maxHeartbeats 1000000 in
theorem Delete_any (w : World) (base : Nat) (v : Value) (H : List (Nat × Nat)) (x now : Nat) (ho : w.ownsRow base 59 2 v H.length (pcl H)) (hl : H.length ≤ 1000000) (hc : w.cell? ⟨x, 0, none⟩ = some (.int .i64 (now : Nat))) (hn : now ≤ 1000000)
    (hb : ∀ j, j < H.length → p2 H j ≤ 1000000) (hxb : x < base) :
    Calls Try.prog 37 #[v, .func (.func 36) #[.pointer (some ⟨x, 0, none⟩)] #[]] w (DelPost base v H now w) := by
  by_cases h0 : H.length = 0
  · obtain ⟨a, c, rfl, _⟩ := own_slice ho
    have hH : H = [] := List.length_eq_zero_iff.1 h0
    subst hH
    simp only [List.length_nil] at *
    clear hc hb
    go_enter Try.func37, Try.ntmps37
    go_wp2_with (go_at_call 42; refine (Ix_nil _ _ _ _).mono ?_; rintro e w1 ⟨rfl, hu1⟩)
    go_ret
    exact ⟨_, rfl, hu1.own ho (fun _ _ => id), rfl, hu1.mono (fun _ _ h => h.elim)⟩
  · obtain ⟨q, cap, rfl, hq1, hq2⟩ := own_form ho (by omega)
    by_cases hex : ∃ j, j < H.length ∧ ovAt now H j = true
    · obtain ⟨i0, hi0, hp, hno⟩ := first_of hex
      have HC := Lib.hid hc
      have HB := Lib.hid hb
      have HN := Lib.hid hno
      have HP := Lib.hid hp
      have HO := Lib.hid ho
      have hcap : H.length ≤ cap := by
        rcases ho.2 with ⟨hv, _⟩ | ⟨g, cp, cur, hv, _, _, h1, _⟩
        · simp at hv
        · simp at hv; omega
      have hne : ((i0 : Int) == -1) = false := by rw [beq_eq_false_iff_ne]; omega
      clear hc hb hno hp hex
      go_enter Try.func37, Try.ntmps37
      go_wp2_with (go_at_call 42; refine (IxOv_yes _ _ _ _ _ x now ho hl HC.out hn HB.out i0 hi0 HP.out HN.out).mono ?_; rintro e w1 ⟨rfl, hu1⟩)
      have hHN : (H.take i0).filter (fun p => !overB now p) = H.take i0 := by
        rw [List.filter_eq_self]
        intro p hp
        obtain ⟨j, hj, rfl⟩ := List.getElem_of_mem hp
        have hj' : j < i0 := by simp at hj; omega
        rw [List.getElem_take, ← ov_at now H j (by omega), HN.out j hj']; rfl
      have HF := Lib.hid hHN
      clear hHN
      have hxq : ¬ x = q := by omega
      go_loopw [5, 6, 7] (fun vi vj _ wr => ∃ (i j : Nat) (L : List (Nat × Nat)), vi = .int .i64 i ∧ vj = .int .i64 j ∧ i < j ∧ j ≤ H.length ∧ L.length = H.length ∧ L.take i = (H.take j).filter (fun p => !overB now p) ∧ L.drop j = H.drop j ∧ wr.ownsRow base 59 2 (.slice (some ⟨q, 0, none⟩) H.length cap) H.length (pcl L) ∧ Upto (· = q) w wr)
        (fun _ vj _ _ => H.length - (intOf vj).toNat)
      case atStart => exact ⟨i0, i0 + 1, H, rfl, by go_num, by omega, by omega, rfl, by rw [filter_step now H i0 hi0, HP.out, HF.out]; simp, rfl, hu1.own HO.out (fun _ _ => id), hu1.mono (fun _ _ h => h.elim)⟩
      case round =>
        obtain ⟨i, j, L, rfl, rfl, hij, hjn, hL, hT, hD, hO, hU⟩ := hrel
        have HT := Lib.hid hT
        have HD := Lib.hid hD
        have HL := Lib.hid hL
        clear hT hD hL
        by_cases hlt : j < H.length
        · have hlL : j < L.length := by rw [HL.out]; exact hlt
          obtain ⟨e1, e2⟩ := pair_drop L H j HD.out hlt
          obtain ⟨s0, s1⟩ := own_pcl hO j hlL
          rw [e1] at s0
          rw [e2] at s1
          have hb2 := HB.out j hlt
          have hcx := hU.keep HC.out hxq
          have hAl := hO.alloc (.cells #[.int .i64 (p1 H j : Nat), .int .i64 (p2 H j : Nat)] 59)
          have z0 := new_1 wr #[.int .i64 (p1 H j : Nat), .int .i64 (p2 H j : Nat)] 59 0 (.int .i64 (p1 H j : Nat)) rfl
          have z1 := new_1 wr #[.int .i64 (p1 H j : Nat), .int .i64 (p2 H j : Nat)] 59 1 (.int .i64 (p2 H j : Nat)) rfl
          have hq3 : ¬ wr.heap.size = q := by have := hU.size; omega
          clear e1 e2
          cases hov : ovAt now H j
          · have HV := Lib.hid hov
            clear hov
            go_wp2_with (go_at_call 36; refine (over_any _ x now _ _ false (keep_alloc hcx _) hn hb2 HV.out).mono ?_; rintro e w2 ⟨rfl, hu2⟩; have y0 := hu2.keep z0 id; have y1 := hu2.keep z1 id; have hO2 := hu2.own hAl (fun _ _ => id); have a0 := (own_pcl hO2 i (by omega)).1; have a1 := (own_pcl hO2 i (by omega)).2; have f0 := hO2.frozenAt (i * 2); have f1 := hO2.frozenAt (i * 2 + 1))
            go_roundw
            case rel =>
              trace_state
              exact ⟨i + 1, j + 1, L.set i (p1 H j, p2 H j), by go_num, by go_num, by omega, by omega, by simpa using HL.out, by rw [filter_step now H j hlt, HV.out, take_put _ _ _ (by omega), HT.out, pair_at H j hlt]; rfl, by have := congrArg (List.drop 1) HD.out; rw [List.drop_set_of_lt (by omega)]; simpa [List.drop_drop] using this, own_put hO2 (by omega), ((hU.alloc _).trans (hu2.mono (fun _ _ h => h.elim))).setB rfl _ |>.setB rfl _⟩
            case measure => simp [intOf]; omega
          · have HV := Lib.hid hov
            clear hov
            go_wp2_with (go_at_call 36; refine (over_any _ x now _ _ true (keep_alloc hcx _) hn hb2 HV.out).mono ?_; rintro e w2 ⟨rfl, hu2⟩)
            go_roundw
            case rel =>
              exact ⟨i, j + 1, L, rfl, by go_num, by omega, by omega, HL.out, by rw [filter_step now H j hlt, HV.out, HT.out]; simp, by have := congrArg (List.drop 1) HD.out; simpa [List.drop_drop] using this, hu2.own hAl (fun _ _ => id), (hU.alloc _).trans (hu2.mono (fun _ _ h => h.elim))⟩
            case measure => simp [intOf]; omega
        · obtain rfl : j = H.length := by omega
          have hT := HT.out
          rw [List.take_length] at hT
          have hi : (H.filter fun p => !overB now p).length = i := by rw [← hT, List.length_take]; have := HL.out; omega
          have HI := Lib.hid hi
          have HT2 := Lib.hid hT
          have hcl : ∀ ty, (Builtin.clear_ #[42] ty #[.slice (some ⟨q, i * 2, none⟩) (H.length - i) (cap - i)]).run Try.prog wr = .ok (.tuple #[]) (wr.setCells q (i * 2) (List.replicate ((H.length - i) * 2) (.int .i64 0))) := fun ty =>
            run_clear2 wr q (i * 2) (H.length - i) (cap - i) (by omega) ty (fun t ht => by rw [hO.cellAt _ (by omega)]; rw [List.getElem?_eq_getElem (by rw [pcl_length, HL.out]; omega)]; rfl) (fun t _ => hO.frozenAt _)
          have hci : i < cap := by omega
          clear hT hi
          go_wp2
          go_ret
          obtain ⟨ys, ho2, hy⟩ := own_tail (k := i * 2) (List.replicate ((H.length - i) * 2) (.int .i64 0)) (i * 2) wr (pcl L) hO (Nat.le_refl _)
          have ho3 := own_less ho2 (i := i) (by omega)
          rw [hy, pcl_take, HT2.out] at ho3
          refine ⟨_, rfl, ?_, rfl, hU.trans ((upto_cells q _ _ _)) |>.mono (fun k _ hk => by rw [hk]; rfl)⟩
          rw [HI.out]
          exact ho3
    · have hno : ∀ j, j < H.length → ovAt now H j = false := fun j hj => by
        cases hb' : ovAt now H j
        · rfl
        · exact (hex ⟨j, hj, hb'⟩).elim
      have HC := Lib.hid hc
      have HB := Lib.hid hb
      have HN := Lib.hid hno
      clear hc hb hno hex
      go_enter Try.func37, Try.ntmps37
      go_wp2_with (go_at_call 42; refine (IxOv_no _ _ _ _ _ x now ho hl HC.out hn HB.out HN.out).mono ?_; rintro e w1 ⟨rfl, hu1⟩)
      go_ret
      refine ⟨_, rfl, ?_, rfl, hu1.mono (fun _ _ h => h.elim)⟩
      rw [filter_none HN.out]
      exact hu1.own ho (fun _ _ => id)
end Go.Proofs.Ytmmhjibgmpdjoaa
