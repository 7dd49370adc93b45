/- slices.IndexFunc and slices.DeleteFunc at timers, with Cut's and take's closures, walked. -/
import Derived.Test.YtgoaokgoenihlaaAt
namespace Go.Proofs.Ytgoaokgoenihlaa
open Go Go.RowKit Go.Deep Go.Maps

theorem tcl_set0 (L : List Tm) (i : Nat) (d : Nat) : (tcl L).set (i * 3) (.int .i64 (d : Nat)) = tcl (L.set i ⟨d, ⟨ts L i, tg L i⟩⟩) := by
  induction L generalizing i with
  | nil => simp [tcl]
  | cons p l ih =>
    cases i with
    | zero => simp [tcl, ts, tg]
    | succ i =>
      have := ih i
      rw [show (i + 1) * 3 = i * 3 + 3 from by omega]
      simpa [tcl, ts, tg] using this
theorem tcl_set1 (L : List Tm) (i : Nat) (s : Int) : (tcl L).set (i * 3 + 1) (.int .i64 s) = tcl (L.set i ⟨td L i, ⟨s, tg L i⟩⟩) := by
  induction L generalizing i with
  | nil => simp [tcl]
  | cons p l ih =>
    cases i with
    | zero => simp [tcl, td, tg]
    | succ i =>
      have := ih i
      rw [show (i + 1) * 3 + 1 = i * 3 + 1 + 3 from by omega]
      simpa [tcl, td, tg] using this
theorem tcl_set2 (L : List Tm) (i : Nat) (g : Nat) : (tcl L).set (i * 3 + 2) (.int .u32 (g : Nat)) = tcl (L.set i ⟨td L i, ⟨ts L i, g⟩⟩) := by
  induction L generalizing i with
  | nil => simp [tcl]
  | cons p l ih =>
    cases i with
    | zero => simp [tcl, td, ts]
    | succ i =>
      have := ih i
      rw [show (i + 1) * 3 + 2 = i * 3 + 2 + 3 from by omega]
      simpa [tcl, td, ts] using this
theorem tcl_take (L : List Tm) (i : Nat) : (tcl L).take (i * 3) = tcl (L.take i) := by
  induction L generalizing i with
  | nil => simp [tcl]
  | cons p l ih =>
    cases i with
    | zero => simp [tcl]
    | succ i =>
      have := ih i
      rw [show (i + 1) * 3 = i * 3 + 3 from by omega]
      simpa [tcl] using this
/-- Fewer of a row: the first ones. -/
theorem own_less {w : World} {base e q n c i : Nat} {xs : List Value} (h : w.ownsRow base e 3 (.slice (some ⟨q, 0, none⟩) n c) n xs) (hi : i ≤ n) : w.ownsRow base e 3 (.slice (some ⟨q, 0, none⟩) i c) i (xs.take (i * 3)) := by
  refine ⟨by rw [List.length_take, h.1]; omega, ?_⟩
  rcases h.2 with ⟨hv, _⟩ | ⟨g, cap, cur, hv, hb, hg, h1, h2, h3, h4⟩
  · simp at hv
  · simp only [Value.slice.injEq, Option.some.injEq, Addr.mk.injEq, and_true, true_and] at hv
    obtain ⟨rfl, rfl⟩ := hv
    exact .inr ⟨q, c, cur, rfl, hb, hg, by omega, h2, h3, by rw [← h4, List.take_take, Nat.min_eq_left (by omega)]⟩
/-- A timer is stored. -/
theorem own_put {w : World} {base e q n c i d g : Nat} {s : Int} {L : List Tm} (h : w.ownsRow base e 3 (.slice (some ⟨q, 0, none⟩) n c) n (tcl L)) (hi : i < L.length) :
    (((w.setCell ⟨q, i * 3, none⟩ (.int .i64 (d : Nat))).setCell ⟨q, i * 3 + 1, none⟩ (.int .i64 s)).setCell ⟨q, i * 3 + 2, none⟩ (.int .u32 (g : Nat))).ownsRow base e 3 (.slice (some ⟨q, 0, none⟩) n c) n (tcl (L.set i ⟨d, ⟨s, g⟩⟩)) := by
  have h1 := (h.stored (i * 3) (.int .i64 (d : Nat))).1
  rw [tcl_set0] at h1
  have h2 := (h1.stored (i * 3 + 1) (.int .i64 s)).1
  rw [tcl_set1] at h2
  have e1 : td (L.set i ⟨d, ⟨ts L i, tg L i⟩⟩) i = d := by simp [td, hi]
  have e1' : tg (L.set i ⟨d, ⟨ts L i, tg L i⟩⟩) i = tg L i := by simp [tg, hi]
  rw [e1, e1', List.set_set] at h2
  have h3 := (h2.stored (i * 3 + 2) (.int .u32 (g : Nat))).1
  rw [tcl_set2] at h3
  have e2 : td (L.set i ⟨d, ⟨s, tg L i⟩⟩) i = d := by simp [td, hi]
  have e3 : ts (L.set i ⟨d, ⟨s, tg L i⟩⟩) i = s := by simp [ts, hi]
  rw [e2, e3, List.set_set] at h3
  exact h3
/-- Cells behind the first ones are stored: the first ones stand. -/
theorem own_tail {base e q n c k : Nat} : ∀ (vs : List Value) (o : Nat) (w : World) (xs : List Value), w.ownsRow base e 3 (.slice (some ⟨q, 0, none⟩) n c) n xs → k ≤ o → ∃ ys, (w.setCells q o vs).ownsRow base e 3 (.slice (some ⟨q, 0, none⟩) n c) n ys ∧ ys.take k = xs.take k
  | [], _, _, xs, h, _ => ⟨xs, h, rfl⟩
  | v :: r, o, w, xs, h, hk => by
    obtain ⟨ys, h1, h2⟩ := own_tail (k := k) r (o + 1) _ _ (h.stored o v).1 (by omega)
    refine ⟨ys, h1, h2.trans ?_⟩
    rw [List.take_set_of_le hk]
theorem upto_cells (q : Nat) : ∀ (vs : List Value) (o : Nat) (w : World), Upto (· = q) w (w.setCells q o vs)
  | [], _, w => Upto.refl _ w
  | v :: r, o, w => ((Upto.refl (fun k => k = q) w).setB (b := q) (o := o) rfl v).trans (upto_cells q r (o + 1) _)
theorem tcl_mem {L : List Tm} {v : Value} (h : v ∈ tcl L) : v.oneCell' = true := by
  obtain ⟨t, _, ht⟩ := List.mem_flatMap.1 h
  simp at ht
  rcases ht with rfl | rfl | rfl <;> rfl
def t0 : Tm := ⟨0, ⟨0, 0⟩⟩
theorem run_clear3 (w : World) (b o n c : Nat) (hn : 0 < n) (ty : TypeId) (hc : ∀ j, j < n * 3 → (w.cell? ⟨b, o + j, none⟩).isSome = true) (hf : ∀ j, j < n * 3 → w.frozen? ⟨b, o + j, none⟩ = false) :
    (Builtin.clear_ #[67] ty #[.slice (some ⟨b, o, none⟩) n c]).run Try.prog w = .ok (.tuple #[]) (w.setCells b o (tcl (List.replicate n t0))) := by
  have hzv : ∀ w, (zeroValue 69).run Try.prog w = .ok (.agg #[.int .i64 0, .int .i64 0, .int .u32 0]) w := fun _ => by kernel_rfl
  have hzc : (Builtin.zeroCells (Value.agg #[.int .i64 0, .int .i64 0, .int .u32 0]).cells n).toList = tcl (List.replicate n t0) := by
    apply List.ext_getElem
    · rw [tcl_length]; simp [Builtin.zeroCells, Value.cells]
    · intro i h1 h2
      rw [tcl_length, List.length_replicate] at h2
      have hj : i / 3 < (List.replicate n t0).length := by simp; omega
      obtain ⟨a0, a1, a2⟩ := tcl_at (List.replicate n t0) (i / 3) hj
      have hj' : i / 3 < n := by omega
      have e0 : td (List.replicate n t0) (i / 3) = 0 := by simp [td, hj', t0]
      have e1 : ts (List.replicate n t0) (i / 3) = 0 := by simp [ts, hj', t0]
      have e2 : tg (List.replicate n t0) (i / 3) = 0 := by simp [tg, hj', t0]
      rw [e0] at a0
      rw [e1] at a1
      rw [e2] at a2
      have h3 : i % 3 = 0 ∨ i % 3 = 1 ∨ i % 3 = 2 := by omega
      rcases h3 with h3 | h3 | h3
      · rw [show i / 3 * 3 = i from by omega] at a0
        rw [(List.getElem?_eq_some_iff.1 a0).2]
        simp [Builtin.zeroCells, Value.cells, h3]
      · rw [show i / 3 * 3 + 1 = i from by omega] at a1
        rw [(List.getElem?_eq_some_iff.1 a1).2]
        simp [Builtin.zeroCells, Value.cells, h3]
      · rw [show i / 3 * 3 + 2 = i from by omega] at a2
        rw [(List.getElem?_eq_some_iff.1 a2).2]
        simp [Builtin.zeroCells, Value.cells, h3]
  have hst := run_storeCells_cells (P := Try.prog) b o (tcl (List.replicate n t0)) 0 w (by simpa [tcl_length] using hc) (by simpa [tcl_length] using hf) (fun v hv' => tcl_mem hv')
  simp only [Nat.add_zero] at hst
  obtain ⟨m, rfl⟩ : ∃ m, n = m + 1 := ⟨n - 1, by omega⟩
  simp [Builtin.clear_, run_underlying Try.underlying67, hzv, hzc, hst]

/-- The j-th one. -/
abbrev tmAt (L : List Tm) (j : Nat) : Tm := ⟨td L j, ⟨ts L j, tg L j⟩⟩
theorem tmAt_mem {L : List Tm} {j : Nat} (h : j < L.length) : tmAt L j ∈ L := by
  unfold tmAt; rw [tm_at L j h]; exact List.getElem_mem h
theorem filter_none {p : Tm → Bool} {H : List Tm} (hno : ∀ j, j < H.length → p (tmAt H j) = false) : H.filter (fun t => !p t) = H ∧ H.filter p = [] := by
  have hall : ∀ t ∈ H, p t = false := fun t ht => by
    obtain ⟨j, hj, rfl⟩ := List.getElem_of_mem ht
    rw [← tm_at H j hj]; exact hno j hj
  refine ⟨List.filter_eq_self.2 (fun t ht => by rw [hall t ht]; rfl), List.filter_eq_nil_iff.2 (fun t ht => by rw [hall t ht]; simp)⟩
theorem filter_step (p : Tm → Bool) (H : List Tm) (j : Nat) (h : j < H.length) : (H.take (j + 1)).filter (fun t => !p t) = (H.take j).filter (fun t => !p t) ++ (if p (tmAt H j) then [] else [tmAt H j]) := by
  unfold tmAt
  rw [List.take_succ_eq_append_getElem h, List.filter_append, tm_at H j h]
  cases hb : p H[j] <;> simp [hb]
theorem filter_stepp (p : Tm → Bool) (H : List Tm) (j : Nat) (h : j < H.length) : (H.take (j + 1)).filter p = (H.take j).filter p ++ (if p (tmAt H j) then [tmAt H j] else []) := by
  unfold tmAt
  rw [List.take_succ_eq_append_getElem h, List.filter_append, tm_at H j h]
  cases hb : p H[j] <;> simp [hb]
theorem take_put (L : List Tm) (i : Nat) (x : Tm) (h : i < L.length) : (L.set i x).take (i + 1) = L.take i ++ [x] := by
  rw [List.take_succ_eq_append_getElem (by simpa using h), List.take_set_of_le (Nat.le_refl _)]
  simp
theorem tm_drop (L H : List Tm) (j : Nat) (h : L.drop j = H.drop j) : td L j = td H j ∧ ts L j = ts H j ∧ tg L j = tg H j := by
  have h1 : L[j]? = H[j]? := by
    have := congrArg (fun l => l[0]?) h
    simpa using this
  unfold td ts tg List.getD
  rw [h1]; exact ⟨rfl, rfl, rfl⟩
/-- The first place at which it holds. -/
theorem first_of {p : Nat → Bool} {n : Nat} (h : ∃ j, j < n ∧ p j = true) : ∃ i, i < n ∧ p i = true ∧ ∀ j, j < i → p j = false := by
  induction n with
  | zero => obtain ⟨j, hj, _⟩ := h; omega
  | succ n ih =>
    by_cases h' : ∃ j, j < n ∧ p j = true
    · obtain ⟨i, hi, hp, hno⟩ := ih h'
      exact ⟨i, by omega, hp, hno⟩
    · obtain ⟨j, hj, hp⟩ := h
      have hall : ∀ i, i < n → p i = false := fun i hi => by
        cases hb : p i
        · rfl
        · exact (h' ⟨i, hi, hb⟩).elim
      have hjn : j = n := by
        rcases Nat.lt_or_ge j n with hl | hl
        · exact (h' ⟨j, hl, hp⟩).elim
        · omega
      subst hjn
      exact ⟨j, hj, hp, hall⟩
theorem Ix_nil (w : World) (c : Nat) (a : Option Addr) (fv : Value) : Calls Try.prog 39 #[.slice a 0 c, fv] w (Told (.int .i64 (-1)) w) := by
  go_enter Try.func39, Try.ntmps39
  go_wp2_with fail
  go_loopw [5, 8] (fun _ i wr => i = .int .i64 (0 : Nat) ∧ wr = w) (fun _ i _ => 0)
  case atStart => exact ⟨rfl, rfl⟩
  case round =>
    obtain ⟨rfl, rfl⟩ := hrel
    go_wp2
    go_ret
    exact ⟨rfl, Upto.refl _ _⟩

/-- What a closure keeps for itself: what it has taken, in which blocks. -/
structure Keeps (I : List Tm → (Nat → Prop) → World → Prop) (q B0 : Nat) : Prop where
  foot : ∀ T F w k, I T F w → F k → k < w.heap.size ∧ B0 ≤ k
  keep : ∀ T F w w', I T F w → Upto (fun k => k = q) w w' → I T F w'
/-- What the closure leaves. -/
def CloPost (I : List Tm → (Nat → Prop) → World → Prop) (T : List Tm) (F : Nat → Prop) (b : Bool) (w : World) (e : Ending) (w' : World) : Prop :=
  e = .returned (.bool b) ∧ ∃ F', I T F' w' ∧ Upto F w w' ∧ ∀ k, F' k → F k ∨ w.heap.size ≤ k
/-- What IndexFunc leaves. -/
def IxPost (I : List Tm → (Nat → Prop) → World → Prop) (T : List Tm) (F : Nat → Prop) (n : Int) (w : World) (e : Ending) (w' : World) : Prop :=
  e = .returned (.int .i64 n) ∧ ∃ F', I T F' w' ∧ Upto F w w' ∧ ∀ k, F' k → F k ∨ w.heap.size ≤ k
/-- What DeleteFunc leaves: the first cells of the same row. -/
def DelPost (base : Nat) (v : Value) (H : List Tm) (p : Tm → Bool) (I : List Tm → (Nat → Prop) → World → Prop) (F : Nat → Prop) (w : World) (e : Ending) (w' : World) : Prop :=
  ∃ v', e = .returned v' ∧ w'.ownsRow base 69 3 v' (H.filter fun t => !p t).length (tcl (H.filter fun t => !p t)) ∧ v'.ownBlock = v.ownBlock ∧ (∃ F', I (H.filter p) F' w' ∧ ∀ k, F' k → F k ∨ w.heap.size ≤ k) ∧ Upto (fun k => v.ownBlock = some k ∨ F k) w w'
theorem foot_trans {F F' G : Nat → Prop} {w w' w'' : World} (hu : Upto F w w') (hf : ∀ k, F' k → F k ∨ w.heap.size ≤ k) (hu' : Upto F' w' w'') (hg : ∀ k, G k → F' k ∨ w'.heap.size ≤ k) : Upto F w w'' ∧ ∀ k, G k → F k ∨ w.heap.size ≤ k := by
  have hs := hu.size
  refine ⟨hu.trans' hu' (fun i hi h => (hf i h).resolve_right (by omega)), fun k hk => ?_⟩
  rcases hg k hk with h | h
  · exact hf k h
  · exact .inr (by omega)

theorem IxNoC (w : World) (base q cap B0 : Nat) (H : List Tm) (bx : Nat) (I : List Tm → (Nat → Prop) → World → Prop) (p : Tm → Bool) (F : Nat → Prop) (K : Keeps I q B0) (hI : I [] F w) (ho : w.ownsRow base 69 3 (.slice (some ⟨q, 0, none⟩) H.length cap) H.length (tcl H)) (hl : H.length ≤ 1000000) (hqB : q < B0)
    (hcl : ∀ T F w' t, t ∈ H → T.length < H.length → I T F w' → Calls Try.prog 30 (#[tmv t, .pointer (some ⟨bx, 0, none⟩)]) w' (CloPost I (if p t then T ++ [t] else T) F (p t) w')) (hno : ∀ j, j < H.length → p (tmAt H j) = false) :
    Calls Try.prog 39 #[.slice (some ⟨q, 0, none⟩) H.length cap, .func (.func 30) #[] #[.pointer (some ⟨bx, 0, none⟩)]] w (IxPost I [] F (-1) w) := by
  have HN := Lib.hid hno
  have HO := Lib.hid ho
  have HCL := Lib.hid hcl
  have HI := Lib.hid hI
  clear hno ho hcl hI
  go_enter Try.func39, Try.ntmps39
  go_wp2_with fail
  go_loopw [5, 8] (fun _ i wr => ∃ k : Nat, k ≤ H.length ∧ i = .int .i64 k ∧ Hid (∃ F', I [] F' wr ∧ Upto F w wr ∧ ∀ k, F' k → F k ∨ w.heap.size ≤ k)) (fun _ i _ => H.length - (intOf i).toNat)
  case atStart => exact ⟨0, by omega, rfl, Lib.hid ⟨F, HI.out, Upto.refl _ _, fun k hk => .inl hk⟩⟩
  case round =>
    obtain ⟨k, hk, rfl, hF⟩ := hrel
    obtain ⟨F', hI', hu, hf⟩ := hF.out
    clear hF
    by_cases hlt : k < H.length
    · have hqF : ¬ F q := fun h => by have := (K.foot _ _ _ _ HI.out h).2; omega
      have s0 := hu.keep (own_tcl HO.out k hlt).1 hqF
      have s1 := hu.keep (own_tcl HO.out k hlt).2.1 hqF
      have s2 := hu.keep (own_tcl HO.out k hlt).2.2 hqF
      have hc := HCL.out [] F' wr (tmAt H k) (tmAt_mem hlt) (Nat.lt_of_le_of_lt (Nat.zero_le k) hlt) hI'
      rw [HN.out k hlt] at hc
      simp only [Bool.false_eq_true, if_false] at hc
      have HC := Lib.hid hc
      have HU := Lib.hid hu
      have HFF := Lib.hid hf
      clear hc hu hf hI'
      go_wp2_with (go_at_call 30; refine HC.out.mono ?_; rintro e w1 ⟨rfl, F1, hI1, hu1, hf1⟩)
      go_roundw
      case rel => exact ⟨k + 1, by omega, by go_num, Lib.hid ⟨F1, hI1, foot_trans HU.out HFF.out hu1 hf1⟩⟩
      case measure => simp [intOf]; omega
    · go_wp2
      go_ret
      exact ⟨rfl, F', hI', hu, hf⟩
theorem IxYesC (w : World) (base q cap B0 : Nat) (H : List Tm) (bx : Nat) (I : List Tm → (Nat → Prop) → World → Prop) (p : Tm → Bool) (F : Nat → Prop) (K : Keeps I q B0) (hI : I [] F w) (ho : w.ownsRow base 69 3 (.slice (some ⟨q, 0, none⟩) H.length cap) H.length (tcl H)) (hl : H.length ≤ 1000000) (hqB : q < B0)
    (hcl : ∀ T F w' t, t ∈ H → T.length < H.length → I T F w' → Calls Try.prog 30 (#[tmv t, .pointer (some ⟨bx, 0, none⟩)]) w' (CloPost I (if p t then T ++ [t] else T) F (p t) w')) (i : Nat) (hi : i < H.length) (hp : p (tmAt H i) = true) (hno : ∀ j, j < i → p (tmAt H j) = false) :
    Calls Try.prog 39 #[.slice (some ⟨q, 0, none⟩) H.length cap, .func (.func 30) #[] #[.pointer (some ⟨bx, 0, none⟩)]] w (IxPost I [tmAt H i] F (i : Nat) w) := by
  have HN := Lib.hid hno
  have HP := Lib.hid hp
  have HO := Lib.hid ho
  have HCL := Lib.hid hcl
  have HI := Lib.hid hI
  clear hno ho hcl hI hp
  go_enter Try.func39, Try.ntmps39
  go_wp2_with fail
  go_loopw [5, 8] (fun _ v wr => ∃ k : Nat, k ≤ i ∧ v = .int .i64 k ∧ Hid (∃ F', I [] F' wr ∧ Upto F w wr ∧ ∀ k, F' k → F k ∨ w.heap.size ≤ k)) (fun _ v _ => H.length - (intOf v).toNat)
  case atStart => exact ⟨0, by omega, rfl, Lib.hid ⟨F, HI.out, Upto.refl _ _, fun k hk => .inl hk⟩⟩
  case round =>
    obtain ⟨k, hk, rfl, hF⟩ := hrel
    obtain ⟨F', hI', hu, hf⟩ := hF.out
    clear hF
    have hlt : k < H.length := by omega
    have hqF : ¬ F q := fun h => by have := (K.foot _ _ _ _ HI.out h).2; omega
    have s0 := hu.keep (own_tcl HO.out k hlt).1 hqF
    have s1 := hu.keep (own_tcl HO.out k hlt).2.1 hqF
    have s2 := hu.keep (own_tcl HO.out k hlt).2.2 hqF
    have hc := HCL.out [] F' wr (tmAt H k) (tmAt_mem hlt) (Nat.lt_of_le_of_lt (Nat.zero_le k) hlt) hI'
    have HU := Lib.hid hu
    have HFF := Lib.hid hf
    by_cases hki : k < i
    · rw [HN.out k hki] at hc
      simp only [Bool.false_eq_true, if_false] at hc
      have HC := Lib.hid hc
      clear hc hu hf hI'
      go_wp2_with (go_at_call 30; refine HC.out.mono ?_; rintro e w1 ⟨rfl, F1, hI1, hu1, hf1⟩)
      go_roundw
      case rel => exact ⟨k + 1, by omega, by go_num, Lib.hid ⟨F1, hI1, foot_trans HU.out HFF.out hu1 hf1⟩⟩
      case measure => simp [intOf]; omega
    · obtain rfl : k = i := by omega
      rw [HP.out] at hc
      simp only [if_true, List.nil_append] at hc
      have HC := Lib.hid hc
      clear hc hu hf hI'
      go_wp2_with (go_at_call 30; refine HC.out.mono ?_; rintro e w1 ⟨rfl, F1, hI1, hu1, hf1⟩)
      go_ret
      exact ⟨rfl, F1, hI1, foot_trans HU.out HFF.out hu1 hf1⟩

set_option maxRecDepth 100000 in
set_option maxHeartbeats 2000000 in
theorem DeleteC (w : World) (base B0 : Nat) (v : Value) (H : List Tm) (bx : Nat) (I : List Tm → (Nat → Prop) → World → Prop) (p : Tm → Bool) (F : Nat → Prop) (K : ∀ q, v.ownBlock = some q → Keeps I q B0) (K0 : ∀ T F w w', I T F w → Upto NoS w w' → I T F w') (hI : I [] F w) (ho : w.ownsRow base 69 3 v H.length (tcl H)) (hl : H.length ≤ 1000000) (hqB : ∀ q, v.ownBlock = some q → q < B0)
    (hcl : ∀ T F w' t, t ∈ H → T.length < H.length → I T F w' → Calls Try.prog 30 (#[tmv t, .pointer (some ⟨bx, 0, none⟩)]) w' (CloPost I (if p t then T ++ [t] else T) F (p t) w')) :
    Calls Try.prog 29 #[v, .func (.func 30) #[] #[.pointer (some ⟨bx, 0, none⟩)]] w (DelPost base v H p I F w) := by
  by_cases h0 : H.length = 0
  · obtain ⟨a, c, rfl, _⟩ := own_slice ho
    have hH : H = [] := List.length_eq_zero_iff.1 h0
    subst hH
    simp only [List.length_nil] at *
    have HI := Lib.hid hI
    have HCL := Lib.hid hcl
    have HK := Lib.hid K0
    clear hI hcl K0 K hqB
    go_enter Try.func29, Try.ntmps29
    go_wp2_with (go_at_call 39; refine (Ix_nil _ _ _ _).mono ?_; rintro e w1 ⟨rfl, hu1⟩)
    go_ret
    exact ⟨_, rfl, hu1.own ho (fun _ _ => id), rfl, ⟨F, HK.out _ _ _ _ HI.out hu1, fun k hk => .inl hk⟩, hu1.mono (fun _ _ h => h.elim)⟩
  · obtain ⟨q, cap, rfl, hq1, hq2⟩ := own_form ho (by omega)
    have hqB := hqB q rfl
    have K := K q rfl
    by_cases hex : ∃ j, j < H.length ∧ p (tmAt H j) = true
    · obtain ⟨i0, hi0, hp, hno⟩ := first_of hex
      have HN := Lib.hid hno
      have HP := Lib.hid hp
      have HO := Lib.hid ho
      have HCL := Lib.hid hcl
      have HI := Lib.hid hI
      have hcap : H.length ≤ cap := by
        rcases ho.2 with ⟨hv, _⟩ | ⟨g, cp, cur, hv, _, _, h1, _⟩
        · simp at hv
        · simp at hv; omega
      have hne : ((i0 : Int) == -1) = false := by rw [beq_eq_false_iff_ne]; omega
      clear hno hp hex hcl hI
      go_enter Try.func29, Try.ntmps29
      go_wp2_with (go_at_call 39; refine (IxYesC _ _ _ _ B0 _ bx I p F K HI.out ho hl hqB HCL.out i0 hi0 HP.out HN.out).mono ?_; rintro e w1 ⟨rfl, F1, hI1, hu1, hf1⟩)
      have hHN : (H.take i0).filter (fun t => !p t) = H.take i0 ∧ (H.take i0).filter p = [] := by
        have hall : ∀ t ∈ H.take i0, p t = false := fun t ht => by
          obtain ⟨j, hj, rfl⟩ := List.getElem_of_mem ht
          have hj' : j < i0 := by simp at hj; omega
          rw [List.getElem_take, ← tm_at H j (by omega)]; exact HN.out j hj'
        exact ⟨List.filter_eq_self.2 (fun t ht => by rw [hall t ht]; rfl), List.filter_eq_nil_iff.2 (fun t ht => by rw [hall t ht]; simp)⟩
      have HF := Lib.hid hHN
      have hqF : ¬ F q := fun h => by have := (K.foot _ _ _ _ HI.out h).2; omega
      have HI1 := Lib.hid hI1
      have HU1 := Lib.hid hu1
      have HF1 := Lib.hid hf1
      clear hHN hI1 hu1 hf1
      go_loopw [5, 6, 7] (fun vi vj _ wr => ∃ (i j : Nat) (L T : List Tm), vi = .int .i64 i ∧ vj = .int .i64 j ∧ i < j ∧ j ≤ H.length ∧ Hid (L.length = H.length) ∧ Hid (L.take i = (H.take j).filter (fun t => !p t)) ∧ Hid (T = (H.take j).filter p) ∧ Hid (L.drop j = H.drop j) ∧ wr.ownsRow base 69 3 (.slice (some ⟨q, 0, none⟩) H.length cap) H.length (tcl L) ∧ Hid (∃ F', I T F' wr ∧ ∀ k, F' k → F k ∨ w.heap.size ≤ k) ∧ Upto (fun k => k = q ∨ F k) w wr)
        (fun _ vj _ _ => H.length - (intOf vj).toNat)
      case atStart => exact ⟨i0, i0 + 1, H, [tmAt H i0], rfl, by go_num, by omega, by omega, Lib.hid rfl, Lib.hid (by rw [filter_step p H i0 hi0, HP.out, HF.out.1]; simp), Lib.hid (by rw [filter_stepp p H i0 hi0, HP.out, HF.out.2]; simp), Lib.hid rfl, HU1.out.own HO.out (fun k hk h => by have hk : q = k := (by simpa [Value.ownBlock] using hk); subst hk; exact hqF h), Lib.hid ⟨F1, HI1.out, HF1.out⟩, HU1.out.mono (fun _ _ h => .inr h)⟩
      case round =>
        obtain ⟨i, j, L, T, rfl, rfl, hij, hjn, HL, HT, HTT, HD, hO, hFF, hU⟩ := hrel
        obtain ⟨F2, hI2, hf2⟩ := hFF.out
        clear hFF
        by_cases hlt : j < H.length
        · have hlL : j < L.length := by rw [HL.out]; exact hlt
          obtain ⟨e1, e2, e3⟩ := tm_drop L H j HD.out
          obtain ⟨s0, s1, s2⟩ := own_tcl hO j hlL
          rw [e1] at s0
          rw [e2] at s1
          rw [e3] at s2
          have hAl := hO.alloc (.cells #[.int .i64 (td H j : Nat), .int .i64 (ts H j), .int .u32 (tg H j : Nat)] 69)
          have z0 := new_1 wr #[.int .i64 (td H j : Nat), .int .i64 (ts H j), .int .u32 (tg H j : Nat)] 69 0 (.int .i64 (td H j : Nat)) rfl
          have z1 := new_1 wr #[.int .i64 (td H j : Nat), .int .i64 (ts H j), .int .u32 (tg H j : Nat)] 69 1 (.int .i64 (ts H j)) rfl
          have z2 := new_1 wr #[.int .i64 (td H j : Nat), .int .i64 (ts H j), .int .u32 (tg H j : Nat)] 69 2 (.int .u32 (tg H j : Nat)) rfl
          have hq3 : ¬ wr.heap.size = q := by have := hU.size; omega
          have hF2q : ¬ F2 q := fun h => by have := (K.foot _ _ _ _ hI2 h).2; omega
          have hF2b : ¬ F2 wr.heap.size := fun h => by have := (K.foot _ _ _ _ hI2 h).1; omega
          have hIa := K.keep _ _ _ _ hI2 ((Upto.refl (fun k => k = q) wr).alloc (.cells #[.int .i64 (td H j : Nat), .int .i64 (ts H j), .int .u32 (tg H j : Nat)] 69))
          have hTl : T.length < H.length := by rw [HTT.out]; exact Nat.lt_of_le_of_lt (Nat.le_trans (List.length_filter_le _ _) (List.length_take_le _ _)) hlt
          have hc := HCL.out T F2 _ (tmAt H j) (tmAt_mem hlt) hTl hIa
          have hUa := hU.alloc (.cells #[.int .i64 (td H j : Nat), .int .i64 (ts H j), .int .u32 (tg H j : Nat)] 69)
          have HUA := Lib.hid hUa
          have HF2 := Lib.hid hf2
          have hsz := hU.size
          clear e1 e2 e3 hIa hI2 hUa hf2 hTl
          cases hov : p (tmAt H j)
          · have HV := Lib.hid hov
            rw [hov] at hc
            simp only [Bool.false_eq_true, if_false] at hc
            have HC := Lib.hid hc
            clear hov hc
            go_wp2_with (go_at_call 30; refine HC.out.mono ?_; rintro e w2 ⟨rfl, F3, hI3, hu3, hf3⟩; have y0 := hu3.keep z0 hF2b; have y1 := hu3.keep z1 hF2b; have y2 := hu3.keep z2 hF2b; have hO2 := hu3.own hAl (fun k hk h => by have hk : q = k := (by simpa [Value.ownBlock] using hk); subst hk; exact hF2q h); have a0 := (own_tcl hO2 i (by omega)).1; have a1 := (own_tcl hO2 i (by omega)).2.1; have a2 := (own_tcl hO2 i (by omega)).2.2; have f0 := hO2.frozenAt (i * 3); have f1 := hO2.frozenAt (i * 3 + 1); have f2 := hO2.frozenAt (i * 3 + 2))
            go_roundw
            case rel =>
              have hu4 : Upto (fun k => k = q) w2 (((w2.setCell ⟨q, i * 3, none⟩ (.int .i64 (td H j : Nat))).setCell ⟨q, i * 3 + 1, none⟩ (.int .i64 (ts H j))).setCell ⟨q, i * 3 + 2, none⟩ (.int .u32 (tg H j : Nat))) := (((Upto.refl (fun k => k = q) w2).setB rfl _).setB rfl _).setB rfl _
              have hsa : (wr.alloc (.cells #[.int .i64 (td H j : Nat), .int .i64 (ts H j), .int .u32 (tg H j : Nat)] 69)).heap.size = wr.heap.size + 1 := by simp
              have hf3' : ∀ k, F3 k → F k ∨ w.heap.size ≤ k := fun k hk => by
                rcases hf3 k hk with h | h
                · exact HF2.out k h
                · right; omega
              have hUU : Upto (fun k => k = q ∨ F k) w (((w2.setCell ⟨q, i * 3, none⟩ (.int .i64 (td H j : Nat))).setCell ⟨q, i * 3 + 1, none⟩ (.int .i64 (ts H j))).setCell ⟨q, i * 3 + 2, none⟩ (.int .u32 (tg H j : Nat))) := (HUA.out.trans' hu3 (fun k hk h => (HF2.out k h).elim .inr (fun h => by omega))).trans' hu4 (fun k _ h => .inl h)
              exact ⟨i + 1, j + 1, L.set i (tmAt H j), T, by go_num, by go_num, by omega, by omega, Lib.hid (by simpa using HL.out), Lib.hid (by rw [filter_step p H j hlt, HV.out, take_put _ _ _ (by omega), HT.out]; rfl), Lib.hid (by rw [filter_stepp p H j hlt, HV.out, HTT.out]; simp), Lib.hid (by have := congrArg (List.drop 1) HD.out; rw [List.drop_set_of_lt (by omega)]; simpa [List.drop_drop] using this), own_put hO2 (by omega), Lib.hid ⟨F3, K.keep _ _ _ _ hI3 hu4, hf3'⟩, hUU⟩
            case measure => simp [intOf]; omega
          · have HV := Lib.hid hov
            rw [hov] at hc
            simp only [if_true] at hc
            have HC := Lib.hid hc
            clear hov hc
            go_wp2_with (go_at_call 30; refine HC.out.mono ?_; rintro e w2 ⟨rfl, F3, hI3, hu3, hf3⟩)
            go_roundw
            case rel =>
              have hsa : (wr.alloc (.cells #[.int .i64 (td H j : Nat), .int .i64 (ts H j), .int .u32 (tg H j : Nat)] 69)).heap.size = wr.heap.size + 1 := by simp
              have hf3' : ∀ k, F3 k → F k ∨ w.heap.size ≤ k := fun k hk => by
                rcases hf3 k hk with h | h
                · exact HF2.out k h
                · right; omega
              have hUU : Upto (fun k => k = q ∨ F k) w w2 := HUA.out.trans' hu3 (fun k hk h => (HF2.out k h).elim .inr (fun h => by omega))
              exact ⟨i, j + 1, L, T ++ [tmAt H j], rfl, by go_num, by omega, by omega, HL, Lib.hid (by rw [filter_step p H j hlt, HV.out, HT.out]; simp), Lib.hid (by rw [filter_stepp p H j hlt, HV.out, HTT.out]; simp), Lib.hid (by have := congrArg (List.drop 1) HD.out; simpa [List.drop_drop] using this), hu3.own hAl (fun k hk h => by have hk : q = k := (by simpa [Value.ownBlock] using hk); subst hk; exact hF2q h), Lib.hid ⟨F3, hI3, hf3'⟩, hUU⟩
            case measure => simp [intOf]; omega
        · obtain rfl : j = H.length := by omega
          have hT := HT.out
          have hTT := HTT.out
          rw [List.take_length] at hT hTT
          have hi : (H.filter fun t => !p t).length = i := by rw [← hT, List.length_take]; have := HL.out; omega
          have HI' := Lib.hid hi
          have HT2 := Lib.hid hT
          have HTT2 := Lib.hid hTT
          have hcl : ∀ ty, (Builtin.clear_ #[67] ty #[.slice (some ⟨q, i * 3, none⟩) (H.length - i) (cap - i)]).run Try.prog wr = .ok (.tuple #[]) (wr.setCells q (i * 3) (tcl (List.replicate (H.length - i) t0))) := fun ty =>
            run_clear3 wr q (i * 3) (H.length - i) (cap - i) (by omega) ty (fun t ht => by rw [hO.cellAt _ (by omega)]; rw [List.getElem?_eq_getElem (by rw [tcl_length, HL.out]; omega)]; rfl) (fun t _ => hO.frozenAt _)
          have hci : i < cap := by omega
          have HF2 := Lib.hid hf2
          have HI2 := Lib.hid hI2
          clear hT hi hTT hf2 hI2
          go_wp2
          go_ret
          obtain ⟨ys, ho2, hy⟩ := own_tail (k := i * 3) (tcl (List.replicate (H.length - i) t0)) (i * 3) wr (tcl L) hO (Nat.le_refl _)
          have ho3 := own_less ho2 (i := i) (by omega)
          rw [hy, tcl_take, HT2.out] at ho3
          have hu9 := upto_cells q (tcl (List.replicate (H.length - i) t0)) (i * 3) wr
          refine ⟨_, rfl, ?_, rfl, ⟨F2, ?_, HF2.out⟩, (hU.trans (hu9.mono (fun _ _ h => .inl h))).mono (fun k _ hk => hk.elim (fun e => .inl (by rw [e]; rfl)) .inr)⟩
          · rw [HI'.out]
            exact ho3
          · rw [← HTT2.out]
            exact K.keep _ _ _ _ HI2.out hu9
    · have hno : ∀ j, j < H.length → p (tmAt H j) = false := fun j hj => by
        cases hb' : p (tmAt H j)
        · rfl
        · exact (hex ⟨j, hj, hb'⟩).elim
      have HN := Lib.hid hno
      have HCL := Lib.hid hcl
      have HI := Lib.hid hI
      clear hno hex hcl hI
      go_enter Try.func29, Try.ntmps29
      go_wp2_with (go_at_call 39; refine (IxNoC _ _ _ _ B0 _ bx I p F K HI.out ho hl hqB HCL.out HN.out).mono ?_; rintro e w1 ⟨rfl, F1, hI1, hu1, hf1⟩)
      go_ret
      have hqF : ¬ F q := fun h => by have := (K.foot _ _ _ _ HI.out h).2; omega
      refine ⟨_, rfl, ?_, rfl, ⟨F1, ?_, hf1⟩, hu1.mono (fun _ _ h => .inr h)⟩
      · rw [(filter_none HN.out).1]
        exact hu1.own ho (fun k hk h => by have hk : q = k := (by simpa [Value.ownBlock] using hk); subst hk; exact hqF h)
      · rw [(filter_none HN.out).2]
        exact hI1

theorem IxNoT (w : World) (base q cap B0 : Nat) (H : List Tm) (bx cx : Nat) (I : List Tm → (Nat → Prop) → World → Prop) (p : Tm → Bool) (F : Nat → Prop) (K : Keeps I q B0) (hI : I [] F w) (ho : w.ownsRow base 69 3 (.slice (some ⟨q, 0, none⟩) H.length cap) H.length (tcl H)) (hl : H.length ≤ 1000000) (hqB : q < B0)
    (hcl : ∀ T F w' t, t ∈ H → T.length < H.length → I T F w' → Calls Try.prog 33 (#[tmv t, .pointer (some ⟨bx, 0, none⟩), .pointer (some ⟨cx, 0, none⟩)]) w' (CloPost I (if p t then T ++ [t] else T) F (p t) w')) (hno : ∀ j, j < H.length → p (tmAt H j) = false) :
    Calls Try.prog 39 #[.slice (some ⟨q, 0, none⟩) H.length cap, .func (.func 33) #[] #[.pointer (some ⟨bx, 0, none⟩), .pointer (some ⟨cx, 0, none⟩)]] w (IxPost I [] F (-1) w) := by
  have HN := Lib.hid hno
  have HO := Lib.hid ho
  have HCL := Lib.hid hcl
  have HI := Lib.hid hI
  clear hno ho hcl hI
  go_enter Try.func39, Try.ntmps39
  go_wp2_with fail
  go_loopw [5, 8] (fun _ i wr => ∃ k : Nat, k ≤ H.length ∧ i = .int .i64 k ∧ Hid (∃ F', I [] F' wr ∧ Upto F w wr ∧ ∀ k, F' k → F k ∨ w.heap.size ≤ k)) (fun _ i _ => H.length - (intOf i).toNat)
  case atStart => exact ⟨0, by omega, rfl, Lib.hid ⟨F, HI.out, Upto.refl _ _, fun k hk => .inl hk⟩⟩
  case round =>
    obtain ⟨k, hk, rfl, hF⟩ := hrel
    obtain ⟨F', hI', hu, hf⟩ := hF.out
    clear hF
    by_cases hlt : k < H.length
    · have hqF : ¬ F q := fun h => by have := (K.foot _ _ _ _ HI.out h).2; omega
      have s0 := hu.keep (own_tcl HO.out k hlt).1 hqF
      have s1 := hu.keep (own_tcl HO.out k hlt).2.1 hqF
      have s2 := hu.keep (own_tcl HO.out k hlt).2.2 hqF
      have hc := HCL.out [] F' wr (tmAt H k) (tmAt_mem hlt) (Nat.lt_of_le_of_lt (Nat.zero_le k) hlt) hI'
      rw [HN.out k hlt] at hc
      simp only [Bool.false_eq_true, if_false] at hc
      have HC := Lib.hid hc
      have HU := Lib.hid hu
      have HFF := Lib.hid hf
      clear hc hu hf hI'
      go_wp2_with (go_at_call 33; refine HC.out.mono ?_; rintro e w1 ⟨rfl, F1, hI1, hu1, hf1⟩)
      go_roundw
      case rel => exact ⟨k + 1, by omega, by go_num, Lib.hid ⟨F1, hI1, foot_trans HU.out HFF.out hu1 hf1⟩⟩
      case measure => simp [intOf]; omega
    · go_wp2
      go_ret
      exact ⟨rfl, F', hI', hu, hf⟩
theorem IxYesT (w : World) (base q cap B0 : Nat) (H : List Tm) (bx cx : Nat) (I : List Tm → (Nat → Prop) → World → Prop) (p : Tm → Bool) (F : Nat → Prop) (K : Keeps I q B0) (hI : I [] F w) (ho : w.ownsRow base 69 3 (.slice (some ⟨q, 0, none⟩) H.length cap) H.length (tcl H)) (hl : H.length ≤ 1000000) (hqB : q < B0)
    (hcl : ∀ T F w' t, t ∈ H → T.length < H.length → I T F w' → Calls Try.prog 33 (#[tmv t, .pointer (some ⟨bx, 0, none⟩), .pointer (some ⟨cx, 0, none⟩)]) w' (CloPost I (if p t then T ++ [t] else T) F (p t) w')) (i : Nat) (hi : i < H.length) (hp : p (tmAt H i) = true) (hno : ∀ j, j < i → p (tmAt H j) = false) :
    Calls Try.prog 39 #[.slice (some ⟨q, 0, none⟩) H.length cap, .func (.func 33) #[] #[.pointer (some ⟨bx, 0, none⟩), .pointer (some ⟨cx, 0, none⟩)]] w (IxPost I [tmAt H i] F (i : Nat) w) := by
  have HN := Lib.hid hno
  have HP := Lib.hid hp
  have HO := Lib.hid ho
  have HCL := Lib.hid hcl
  have HI := Lib.hid hI
  clear hno ho hcl hI hp
  go_enter Try.func39, Try.ntmps39
  go_wp2_with fail
  go_loopw [5, 8] (fun _ v wr => ∃ k : Nat, k ≤ i ∧ v = .int .i64 k ∧ Hid (∃ F', I [] F' wr ∧ Upto F w wr ∧ ∀ k, F' k → F k ∨ w.heap.size ≤ k)) (fun _ v _ => H.length - (intOf v).toNat)
  case atStart => exact ⟨0, by omega, rfl, Lib.hid ⟨F, HI.out, Upto.refl _ _, fun k hk => .inl hk⟩⟩
  case round =>
    obtain ⟨k, hk, rfl, hF⟩ := hrel
    obtain ⟨F', hI', hu, hf⟩ := hF.out
    clear hF
    have hlt : k < H.length := by omega
    have hqF : ¬ F q := fun h => by have := (K.foot _ _ _ _ HI.out h).2; omega
    have s0 := hu.keep (own_tcl HO.out k hlt).1 hqF
    have s1 := hu.keep (own_tcl HO.out k hlt).2.1 hqF
    have s2 := hu.keep (own_tcl HO.out k hlt).2.2 hqF
    have hc := HCL.out [] F' wr (tmAt H k) (tmAt_mem hlt) (Nat.lt_of_le_of_lt (Nat.zero_le k) hlt) hI'
    have HU := Lib.hid hu
    have HFF := Lib.hid hf
    by_cases hki : k < i
    · rw [HN.out k hki] at hc
      simp only [Bool.false_eq_true, if_false] at hc
      have HC := Lib.hid hc
      clear hc hu hf hI'
      go_wp2_with (go_at_call 33; refine HC.out.mono ?_; rintro e w1 ⟨rfl, F1, hI1, hu1, hf1⟩)
      go_roundw
      case rel => exact ⟨k + 1, by omega, by go_num, Lib.hid ⟨F1, hI1, foot_trans HU.out HFF.out hu1 hf1⟩⟩
      case measure => simp [intOf]; omega
    · obtain rfl : k = i := by omega
      rw [HP.out] at hc
      simp only [if_true, List.nil_append] at hc
      have HC := Lib.hid hc
      clear hc hu hf hI'
      go_wp2_with (go_at_call 33; refine HC.out.mono ?_; rintro e w1 ⟨rfl, F1, hI1, hu1, hf1⟩)
      go_ret
      exact ⟨rfl, F1, hI1, foot_trans HU.out HFF.out hu1 hf1⟩

set_option maxRecDepth 100000 in
set_option maxHeartbeats 2000000 in
theorem DeleteT (w : World) (base B0 : Nat) (v : Value) (H : List Tm) (bx cx : Nat) (I : List Tm → (Nat → Prop) → World → Prop) (p : Tm → Bool) (F : Nat → Prop) (K : ∀ q, v.ownBlock = some q → Keeps I q B0) (K0 : ∀ T F w w', I T F w → Upto NoS w w' → I T F w') (hI : I [] F w) (ho : w.ownsRow base 69 3 v H.length (tcl H)) (hl : H.length ≤ 1000000) (hqB : ∀ q, v.ownBlock = some q → q < B0)
    (hcl : ∀ T F w' t, t ∈ H → T.length < H.length → I T F w' → Calls Try.prog 33 (#[tmv t, .pointer (some ⟨bx, 0, none⟩), .pointer (some ⟨cx, 0, none⟩)]) w' (CloPost I (if p t then T ++ [t] else T) F (p t) w')) :
    Calls Try.prog 29 #[v, .func (.func 33) #[] #[.pointer (some ⟨bx, 0, none⟩), .pointer (some ⟨cx, 0, none⟩)]] w (DelPost base v H p I F w) := by
  by_cases h0 : H.length = 0
  · obtain ⟨a, c, rfl, _⟩ := own_slice ho
    have hH : H = [] := List.length_eq_zero_iff.1 h0
    subst hH
    simp only [List.length_nil] at *
    have HI := Lib.hid hI
    have HCL := Lib.hid hcl
    have HK := Lib.hid K0
    clear hI hcl K0 K hqB
    go_enter Try.func29, Try.ntmps29
    go_wp2_with (go_at_call 39; refine (Ix_nil _ _ _ _).mono ?_; rintro e w1 ⟨rfl, hu1⟩)
    go_ret
    exact ⟨_, rfl, hu1.own ho (fun _ _ => id), rfl, ⟨F, HK.out _ _ _ _ HI.out hu1, fun k hk => .inl hk⟩, hu1.mono (fun _ _ h => h.elim)⟩
  · obtain ⟨q, cap, rfl, hq1, hq2⟩ := own_form ho (by omega)
    have hqB := hqB q rfl
    have K := K q rfl
    by_cases hex : ∃ j, j < H.length ∧ p (tmAt H j) = true
    · obtain ⟨i0, hi0, hp, hno⟩ := first_of hex
      have HN := Lib.hid hno
      have HP := Lib.hid hp
      have HO := Lib.hid ho
      have HCL := Lib.hid hcl
      have HI := Lib.hid hI
      have hcap : H.length ≤ cap := by
        rcases ho.2 with ⟨hv, _⟩ | ⟨g, cp, cur, hv, _, _, h1, _⟩
        · simp at hv
        · simp at hv; omega
      have hne : ((i0 : Int) == -1) = false := by rw [beq_eq_false_iff_ne]; omega
      clear hno hp hex hcl hI
      go_enter Try.func29, Try.ntmps29
      go_wp2_with (go_at_call 39; refine (IxYesT _ _ _ _ B0 _ bx cx I p F K HI.out ho hl hqB HCL.out i0 hi0 HP.out HN.out).mono ?_; rintro e w1 ⟨rfl, F1, hI1, hu1, hf1⟩)
      have hHN : (H.take i0).filter (fun t => !p t) = H.take i0 ∧ (H.take i0).filter p = [] := by
        have hall : ∀ t ∈ H.take i0, p t = false := fun t ht => by
          obtain ⟨j, hj, rfl⟩ := List.getElem_of_mem ht
          have hj' : j < i0 := by simp at hj; omega
          rw [List.getElem_take, ← tm_at H j (by omega)]; exact HN.out j hj'
        exact ⟨List.filter_eq_self.2 (fun t ht => by rw [hall t ht]; rfl), List.filter_eq_nil_iff.2 (fun t ht => by rw [hall t ht]; simp)⟩
      have HF := Lib.hid hHN
      have hqF : ¬ F q := fun h => by have := (K.foot _ _ _ _ HI.out h).2; omega
      have HI1 := Lib.hid hI1
      have HU1 := Lib.hid hu1
      have HF1 := Lib.hid hf1
      clear hHN hI1 hu1 hf1
      go_loopw [5, 6, 7] (fun vi vj _ wr => ∃ (i j : Nat) (L T : List Tm), vi = .int .i64 i ∧ vj = .int .i64 j ∧ i < j ∧ j ≤ H.length ∧ Hid (L.length = H.length) ∧ Hid (L.take i = (H.take j).filter (fun t => !p t)) ∧ Hid (T = (H.take j).filter p) ∧ Hid (L.drop j = H.drop j) ∧ wr.ownsRow base 69 3 (.slice (some ⟨q, 0, none⟩) H.length cap) H.length (tcl L) ∧ Hid (∃ F', I T F' wr ∧ ∀ k, F' k → F k ∨ w.heap.size ≤ k) ∧ Upto (fun k => k = q ∨ F k) w wr)
        (fun _ vj _ _ => H.length - (intOf vj).toNat)
      case atStart => exact ⟨i0, i0 + 1, H, [tmAt H i0], rfl, by go_num, by omega, by omega, Lib.hid rfl, Lib.hid (by rw [filter_step p H i0 hi0, HP.out, HF.out.1]; simp), Lib.hid (by rw [filter_stepp p H i0 hi0, HP.out, HF.out.2]; simp), Lib.hid rfl, HU1.out.own HO.out (fun k hk h => by have hk : q = k := (by simpa [Value.ownBlock] using hk); subst hk; exact hqF h), Lib.hid ⟨F1, HI1.out, HF1.out⟩, HU1.out.mono (fun _ _ h => .inr h)⟩
      case round =>
        obtain ⟨i, j, L, T, rfl, rfl, hij, hjn, HL, HT, HTT, HD, hO, hFF, hU⟩ := hrel
        obtain ⟨F2, hI2, hf2⟩ := hFF.out
        clear hFF
        by_cases hlt : j < H.length
        · have hlL : j < L.length := by rw [HL.out]; exact hlt
          obtain ⟨e1, e2, e3⟩ := tm_drop L H j HD.out
          obtain ⟨s0, s1, s2⟩ := own_tcl hO j hlL
          rw [e1] at s0
          rw [e2] at s1
          rw [e3] at s2
          have hAl := hO.alloc (.cells #[.int .i64 (td H j : Nat), .int .i64 (ts H j), .int .u32 (tg H j : Nat)] 69)
          have z0 := new_1 wr #[.int .i64 (td H j : Nat), .int .i64 (ts H j), .int .u32 (tg H j : Nat)] 69 0 (.int .i64 (td H j : Nat)) rfl
          have z1 := new_1 wr #[.int .i64 (td H j : Nat), .int .i64 (ts H j), .int .u32 (tg H j : Nat)] 69 1 (.int .i64 (ts H j)) rfl
          have z2 := new_1 wr #[.int .i64 (td H j : Nat), .int .i64 (ts H j), .int .u32 (tg H j : Nat)] 69 2 (.int .u32 (tg H j : Nat)) rfl
          have hq3 : ¬ wr.heap.size = q := by have := hU.size; omega
          have hF2q : ¬ F2 q := fun h => by have := (K.foot _ _ _ _ hI2 h).2; omega
          have hF2b : ¬ F2 wr.heap.size := fun h => by have := (K.foot _ _ _ _ hI2 h).1; omega
          have hIa := K.keep _ _ _ _ hI2 ((Upto.refl (fun k => k = q) wr).alloc (.cells #[.int .i64 (td H j : Nat), .int .i64 (ts H j), .int .u32 (tg H j : Nat)] 69))
          have hTl : T.length < H.length := by rw [HTT.out]; exact Nat.lt_of_le_of_lt (Nat.le_trans (List.length_filter_le _ _) (List.length_take_le _ _)) hlt
          have hc := HCL.out T F2 _ (tmAt H j) (tmAt_mem hlt) hTl hIa
          have hUa := hU.alloc (.cells #[.int .i64 (td H j : Nat), .int .i64 (ts H j), .int .u32 (tg H j : Nat)] 69)
          have HUA := Lib.hid hUa
          have HF2 := Lib.hid hf2
          have hsz := hU.size
          clear e1 e2 e3 hIa hI2 hUa hf2 hTl
          cases hov : p (tmAt H j)
          · have HV := Lib.hid hov
            rw [hov] at hc
            simp only [Bool.false_eq_true, if_false] at hc
            have HC := Lib.hid hc
            clear hov hc
            go_wp2_with (go_at_call 33; refine HC.out.mono ?_; rintro e w2 ⟨rfl, F3, hI3, hu3, hf3⟩; have y0 := hu3.keep z0 hF2b; have y1 := hu3.keep z1 hF2b; have y2 := hu3.keep z2 hF2b; have hO2 := hu3.own hAl (fun k hk h => by have hk : q = k := (by simpa [Value.ownBlock] using hk); subst hk; exact hF2q h); have a0 := (own_tcl hO2 i (by omega)).1; have a1 := (own_tcl hO2 i (by omega)).2.1; have a2 := (own_tcl hO2 i (by omega)).2.2; have f0 := hO2.frozenAt (i * 3); have f1 := hO2.frozenAt (i * 3 + 1); have f2 := hO2.frozenAt (i * 3 + 2))
            go_roundw
            case rel =>
              have hu4 : Upto (fun k => k = q) w2 (((w2.setCell ⟨q, i * 3, none⟩ (.int .i64 (td H j : Nat))).setCell ⟨q, i * 3 + 1, none⟩ (.int .i64 (ts H j))).setCell ⟨q, i * 3 + 2, none⟩ (.int .u32 (tg H j : Nat))) := (((Upto.refl (fun k => k = q) w2).setB rfl _).setB rfl _).setB rfl _
              have hsa : (wr.alloc (.cells #[.int .i64 (td H j : Nat), .int .i64 (ts H j), .int .u32 (tg H j : Nat)] 69)).heap.size = wr.heap.size + 1 := by simp
              have hf3' : ∀ k, F3 k → F k ∨ w.heap.size ≤ k := fun k hk => by
                rcases hf3 k hk with h | h
                · exact HF2.out k h
                · right; omega
              have hUU : Upto (fun k => k = q ∨ F k) w (((w2.setCell ⟨q, i * 3, none⟩ (.int .i64 (td H j : Nat))).setCell ⟨q, i * 3 + 1, none⟩ (.int .i64 (ts H j))).setCell ⟨q, i * 3 + 2, none⟩ (.int .u32 (tg H j : Nat))) := (HUA.out.trans' hu3 (fun k hk h => (HF2.out k h).elim .inr (fun h => by omega))).trans' hu4 (fun k _ h => .inl h)
              exact ⟨i + 1, j + 1, L.set i (tmAt H j), T, by go_num, by go_num, by omega, by omega, Lib.hid (by simpa using HL.out), Lib.hid (by rw [filter_step p H j hlt, HV.out, take_put _ _ _ (by omega), HT.out]; rfl), Lib.hid (by rw [filter_stepp p H j hlt, HV.out, HTT.out]; simp), Lib.hid (by have := congrArg (List.drop 1) HD.out; rw [List.drop_set_of_lt (by omega)]; simpa [List.drop_drop] using this), own_put hO2 (by omega), Lib.hid ⟨F3, K.keep _ _ _ _ hI3 hu4, hf3'⟩, hUU⟩
            case measure => simp [intOf]; omega
          · have HV := Lib.hid hov
            rw [hov] at hc
            simp only [if_true] at hc
            have HC := Lib.hid hc
            clear hov hc
            go_wp2_with (go_at_call 33; refine HC.out.mono ?_; rintro e w2 ⟨rfl, F3, hI3, hu3, hf3⟩)
            go_roundw
            case rel =>
              have hsa : (wr.alloc (.cells #[.int .i64 (td H j : Nat), .int .i64 (ts H j), .int .u32 (tg H j : Nat)] 69)).heap.size = wr.heap.size + 1 := by simp
              have hf3' : ∀ k, F3 k → F k ∨ w.heap.size ≤ k := fun k hk => by
                rcases hf3 k hk with h | h
                · exact HF2.out k h
                · right; omega
              have hUU : Upto (fun k => k = q ∨ F k) w w2 := HUA.out.trans' hu3 (fun k hk h => (HF2.out k h).elim .inr (fun h => by omega))
              exact ⟨i, j + 1, L, T ++ [tmAt H j], rfl, by go_num, by omega, by omega, HL, Lib.hid (by rw [filter_step p H j hlt, HV.out, HT.out]; simp), Lib.hid (by rw [filter_stepp p H j hlt, HV.out, HTT.out]; simp), Lib.hid (by have := congrArg (List.drop 1) HD.out; simpa [List.drop_drop] using this), hu3.own hAl (fun k hk h => by have hk : q = k := (by simpa [Value.ownBlock] using hk); subst hk; exact hF2q h), Lib.hid ⟨F3, hI3, hf3'⟩, hUU⟩
            case measure => simp [intOf]; omega
        · obtain rfl : j = H.length := by omega
          have hT := HT.out
          have hTT := HTT.out
          rw [List.take_length] at hT hTT
          have hi : (H.filter fun t => !p t).length = i := by rw [← hT, List.length_take]; have := HL.out; omega
          have HI' := Lib.hid hi
          have HT2 := Lib.hid hT
          have HTT2 := Lib.hid hTT
          have hcl : ∀ ty, (Builtin.clear_ #[67] ty #[.slice (some ⟨q, i * 3, none⟩) (H.length - i) (cap - i)]).run Try.prog wr = .ok (.tuple #[]) (wr.setCells q (i * 3) (tcl (List.replicate (H.length - i) t0))) := fun ty =>
            run_clear3 wr q (i * 3) (H.length - i) (cap - i) (by omega) ty (fun t ht => by rw [hO.cellAt _ (by omega)]; rw [List.getElem?_eq_getElem (by rw [tcl_length, HL.out]; omega)]; rfl) (fun t _ => hO.frozenAt _)
          have hci : i < cap := by omega
          have HF2 := Lib.hid hf2
          have HI2 := Lib.hid hI2
          clear hT hi hTT hf2 hI2
          go_wp2
          go_ret
          obtain ⟨ys, ho2, hy⟩ := own_tail (k := i * 3) (tcl (List.replicate (H.length - i) t0)) (i * 3) wr (tcl L) hO (Nat.le_refl _)
          have ho3 := own_less ho2 (i := i) (by omega)
          rw [hy, tcl_take, HT2.out] at ho3
          have hu9 := upto_cells q (tcl (List.replicate (H.length - i) t0)) (i * 3) wr
          refine ⟨_, rfl, ?_, rfl, ⟨F2, ?_, HF2.out⟩, (hU.trans (hu9.mono (fun _ _ h => .inl h))).mono (fun k _ hk => hk.elim (fun e => .inl (by rw [e]; rfl)) .inr)⟩
          · rw [HI'.out]
            exact ho3
          · rw [← HTT2.out]
            exact K.keep _ _ _ _ HI2.out hu9
    · have hno : ∀ j, j < H.length → p (tmAt H j) = false := fun j hj => by
        cases hb' : p (tmAt H j)
        · rfl
        · exact (hex ⟨j, hj, hb'⟩).elim
      have HN := Lib.hid hno
      have HCL := Lib.hid hcl
      have HI := Lib.hid hI
      clear hno hex hcl hI
      go_enter Try.func29, Try.ntmps29
      go_wp2_with (go_at_call 39; refine (IxNoT _ _ _ _ B0 _ bx cx I p F K HI.out ho hl hqB HCL.out HN.out).mono ?_; rintro e w1 ⟨rfl, F1, hI1, hu1, hf1⟩)
      go_ret
      have hqF : ¬ F q := fun h => by have := (K.foot _ _ _ _ HI.out h).2; omega
      refine ⟨_, rfl, ?_, rfl, ⟨F1, ?_, hf1⟩, hu1.mono (fun _ _ h => .inr h)⟩
      · rw [(filter_none HN.out).1]
        exact hu1.own ho (fun k hk h => by have hk : q = k := (by simpa [Value.ownBlock] using hk); subst hk; exact hqF h)
      · rw [(filter_none HN.out).2]
        exact hI1
end Go.Proofs.Ytgoaokgoenihlaa
