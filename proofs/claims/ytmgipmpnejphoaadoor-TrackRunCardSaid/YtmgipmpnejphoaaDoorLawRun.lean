/- The reference's Run, walked; TrackRun, walked. -/
import Derived.Test.YtmgipmpnejphoaaDoorStood
namespace Go.Proofs.YtmgipmpnejphoaaDoor
open Go Go.RowKit Go.Deep

set_option maxRecDepth 100000 in
theorem Run_ref (w : World) (f : Int) (a : Option Addr) (len cap : Nat) (z : Nat → Bool × Nat) (hz : StepsAt w a len z) (_hm : len ≤ 60) :
    Calls Tryd.prog 9 #[.int .i64 f, .slice a len cap] w (Told (runV f z len) w) := by
  by_cases h0 : len = 0
  · subst h0
    rw [show runV f z 0 = .tuple #[.int .i64 0, .bool false] from by simp [runV, runSt, runOk]]
    go_enter Tryd.func9, Tryd.ntmps9
    go_wp2
    go_ret2
    exact ⟨rfl, Upto.refl _ _⟩
  · obtain ⟨hf0, b, off, rfl, hb, c0, c1⟩ := hz 0 (by omega)
    have hpos : 0 < len := by omega
    have hk0 : ((len : Int) == 0) = false := beq_eq_false_iff_ne.2 (by omega)
    rw [Nat.zero_mul, Nat.add_zero] at c0 c1
    cases hb0 : (z 0).1
    · rw [hb0] at c0
      cases hok : okF f (z 0).2
      · rw [show runV f z len = .tuple #[.int .i64 0, .bool false] from by simp [runV, runSt, runOk, hok]]
        go_enter Tryd.func9, Tryd.ntmps9
        go_wp2_with (go_at_call 18; refine (First_ref _ _ _ hf0).mono ?_; rintro e w1 ⟨rfl, hu1⟩; rw [hok])
        go_loopw [6, 8] (fun st i wr => st = .int .i64 0 ∧ i = .int .i64 1 ∧ Upto NoS w wr)
          (fun _ i _ => len - (intOf i).toNat)
        case atStart => exact ⟨rfl, rfl, hu1⟩
        case round =>
          obtain ⟨rfl, rfl, hu⟩ := hrel
          by_cases hlt : 1 < len
          · go_wp2
            go_ret2
            exact ⟨rfl, hu⟩
          · go_wp2
            go_ret2
            exact ⟨rfl, hu⟩
      · rw [show runV f z len = .tuple #[.int .i64 (rs f z (len - 1)), .bool true] from by simp [runV, runSt, runOk, hok, hb0, hpos]]
        go_enter Tryd.func9, Tryd.ntmps9
        go_wp2_with (go_at_call 18; refine (First_ref _ _ _ hf0).mono ?_; rintro e w1 ⟨rfl, hu1⟩; rw [hok])
        go_loopw [6, 8] (fun st i wr => ∃ k : Nat, 1 ≤ k ∧ k ≤ len ∧ i = .int .i64 k ∧ st = .int .i64 (rs f z (k - 1)) ∧ Upto NoS w wr)
          (fun _ i _ => len - (intOf i).toNat)
        case atStart => exact ⟨1, by omega, by omega, rfl, rfl, hu1⟩
        case round =>
          obtain ⟨k, hk1, hk, rfl, rfl, hu⟩ := hrel
          by_cases hlt : k < len
          · obtain ⟨hf1, b', off', he, hb', d0, d1⟩ := hz k hlt
            simp only [Option.some.injEq, Addr.mk.injEq, and_true] at he
            obtain ⟨rfl, rfl⟩ := he
            have e0 := hu.keep d0 id
            have e1 := hu.keep d1 id
            have hr : rs f z k = nextI f (rs f z (k - 1)) (z k).1 (z k).2 := by
              obtain ⟨j, rfl⟩ : ∃ j, k = j + 1 := ⟨k - 1, by omega⟩
              rfl
            have Hr := Lib.hid hr
            clear d0 d1 hr
            go_wp2_with fail
            go_region_held3 (fun w' => w'.cell? ⟨b, off + k * 2, none⟩ = some (.bool (z k).1) ∧ w'.cell? ⟨b, off + k * 2 + 1, none⟩ = some (.int .u8 ((z k).2 : Nat)))
              (first | exact ⟨e0, e1⟩ | exact ⟨hu2.keep e0 id, hu2.keep e1 id⟩)
              (first | (go_at_call 16; refine (Next_ref _ _ _ _ _ hf1).mono ?_; rintro e w2 ⟨rfl, hu2⟩))
            go_wp2
            go_roundw
            case rel => exact ⟨k + 1, by omega, by omega, by go_num, by rw [show k + 1 - 1 = k from rfl, Hr.out], hu.drew.trans hu2⟩
            case measure => simp [intOf]; omega
          · obtain rfl : k = len := by omega
            go_wp2
            go_ret2
            exact ⟨rfl, hu⟩
    · rw [show runV f z len = .tuple #[.int .i64 0, .bool false] from by simp [runV, runSt, runOk, hb0]]
      rw [hb0] at c0
      go_enter Tryd.func9, Tryd.ntmps9
      go_wp2
      go_ret2
      exact ⟨rfl, Upto.refl _ _⟩

theorem Run_ref_to (w : World) (f : Int) (a : Option Addr) (len cap : Nat) (z : Nat → Bool × Nat) (v : Value) (hv : runV f z len = v) (hz : StepsAt w a len z) (hm : len ≤ 60) :
    Calls Tryd.prog 9 #[.int .i64 f, .slice a len cap] w (Told v w) := hv ▸ Run_ref w f a len cap z hz hm
def scl (z : Nat → Bool × Nat) (k : Nat) : List Value := (List.range k).flatMap fun j => [.bool (z j).1, .int .u8 ((z j).2 : Nat)]
theorem scl_succ (z : Nat → Bool × Nat) (k : Nat) : scl z (k + 1) = scl z k ++ [.bool (z k).1, .int .u8 ((z k).2 : Nat)] := by simp [scl, List.range_succ]
theorem scl_length (z : Nat → Bool × Nat) (k : Nat) : (scl z k).length = k * 2 := by
  induction k with
  | zero => rfl
  | succ k ih => rw [scl_succ, List.length_append, ih]; simp; omega
theorem scl_at (z : Nat → Bool × Nat) (n j : Nat) (h : j < n) : (scl z n)[j * 2]? = some (.bool (z j).1) ∧ (scl z n)[j * 2 + 1]? = some (.int .u8 ((z j).2 : Nat)) := by
  induction n with
  | zero => omega
  | succ n ih =>
    rw [scl_succ]
    by_cases e : j < n
    · rw [List.getElem?_append_left (by rw [scl_length]; omega), List.getElem?_append_left (by rw [scl_length]; omega)]
      exact ih e
    · obtain rfl : j = n := by omega
      rw [List.getElem?_append_right (by rw [scl_length]; omega), List.getElem?_append_right (by rw [scl_length]; omega), scl_length]
      simp
theorem own_steps {w : World} {base n : Nat} {v : Value} {z : Nat → Bool × Nat} (h : w.ownsRow base 26 2 v n (scl z n)) (hz : ∀ k, k < n → (z k).2 < 256) : ∃ a c, v = .slice a n c ∧ StepsAt w a n z := by
  rcases h.2 with ⟨hv, hn⟩ | ⟨g, cap, cur, hv, hb, hg, _⟩
  · subst hn
    exact ⟨none, 0, hv, fun k hk => by omega⟩
  · subst hv
    refine ⟨_, cap, rfl, fun k hk => ⟨hz k hk, g, 0, rfl, (Array.getElem?_eq_some_iff.1 hg).1, ?_, ?_⟩⟩
    · have h1 := h.cells (g := g) rfl (k * 2) _ (scl_at z n k hk).1
      rw [Addr.add_lit] at h1
      exact h1
    · have h1 := h.cells (g := g) rfl (k * 2 + 1) _ (scl_at z n k hk).2
      rw [Addr.add_lit] at h1
      exact h1
theorem pair_new (w : World) (x y : Value) (t : TypeId) : ∀ j u, [x, y][j]? = some u → (w.alloc (.cells #[x, y] t)).cell? ((⟨w.heap.size, 0, none⟩ : Addr).add j) = some u := by
  intro j u hj
  match j, hj with
  | 0, hj => simp at hj; subst hj; rw [Addr.add_lit]; exact new_1 w #[x, y] t 0 x rfl
  | 1, hj => simp at hj; subst hj; rw [Addr.add_lit]; exact new_1 w #[x, y] t 1 y rfl
theorem inf26 : (Tryd.prog.info? 26).map (fun i => (i.zero, i.size, i.bytes)) = some (some (.agg #[.bool false, .int .u8 0]), 2, 2) := by kernel_rfl

set_option maxRecDepth 100000 in
theorem run_walk (w : World) (f : Int) (a : Option Addr) (len cap : Nat) (z : Nat → Bool × Nat) (hT : Tab w) (hz : StepsAt w a len z) (hl : len ≤ cap) (hm : cap ≤ 9223372036854775807) :
    Calls Tryd.prog 3 #[.int .i64 f, .slice a len cap] w (Told (.bool true) w) := by
  by_cases h60 : 60 < len
  · go_enter Tryd.func3, Tryd.ntmps3
    go_wp2_with (go_at_call 7; refine (stood_any _ hT).mono ?_; rintro e w1 ⟨rfl, hu⟩)
    go_ret
    exact ⟨rfl, hu⟩
  · obtain ⟨i0, hi, hz0, hz1, hz2⟩ := info_parts inf26
    have hl60 : len ≤ 60 := by omega
    go_enter Tryd.func3, Tryd.ntmps3
    go_wp2_with fail
    go_loopw [5, 6] (fun v i wr => ∃ k : Nat, k ≤ len ∧ i = .int .i64 k ∧ wr.ownsRow w.heap.size 26 2 v k (scl z k) ∧ Upto NoS w wr)
      (fun _ i _ => len - (intOf i).toNat)
    case atStart => exact ⟨0, by omega, rfl, World.ownsRow_nil _ _ _ _, Upto.refl _ _⟩
    case round =>
      obtain ⟨k, hk, rfl, hown, hu⟩ := hrel
      by_cases hlt : k < len
      · obtain ⟨hf1, b', off', he, hb', d0, d1⟩ := hz k hlt
        subst he
        have e0 := hu.keep d0 id
        have e1 := hu.keep d1 id
        clear d0 d1
        go_wp2_with (at_builtin; refine wpList_append_own _ rfl (.tmp 23) (.tmp 28) 24 rfl w.heap.size 26 i0 (.agg #[.bool false, .int .u8 0]) 2 2 Tryd.underlying24 hi hz0 hz1 hz2 rfl (by decide) _ _ _ rfl (hown.alloc _) ⟨wr.heap.size, 0, none⟩ 1 1 [.bool (z k).1, .int .u8 ((z k).2 : Nat)] rfl rfl ?c1 ?c2 ?c3 ?c4 ?c5 ?_)
        case c1 => exact pair_new _ _ _ _
        case c2 => intro u hu; simp at hu; rcases hu with rfl | rfl <;> rfl
        case c3 => unfold maxLen; omega
        case c4 => omega
        case c5 => have := hu.size; simp; omega
        intro v' w4 hown4 hg4 _
        rw [← scl_succ] at hown4
        have hU4 : Upto NoS w w4 := (hu.alloc _).grown hg4 (fun j hj hlt => by have := (hown.lt j hj).1; omega)
        clear hg4
        go_wp2
        go_roundw
        case rel => exact ⟨k + 1, by omega, by go_num, hown4, hU4⟩
        case measure => simp [intOf]; omega
      · obtain rfl : len = k := by omega
        obtain ⟨ma, mc, rfl, hM⟩ := own_steps hown (fun k hk => (hz k hk).1)
        clear hown
        go_wp2_with fail
        go_loopw [7] (fun i wq => ∃ k : Nat, k ≤ 5 ∧ i = .int .i64 k ∧ Upto NoS wr wq)
          (fun i _ => 5 - (intOf i).toNat)
        case atStart => exact ⟨0, by omega, rfl, Upto.refl _ _⟩
        case round =>
          obtain ⟨k, hk, rfl, huq⟩ := hrel
          have hT1 := (hT.upto hu).upto huq
          have hz1' := (hz.upto hu).upto huq
          have hM1 := hM.upto huq
          by_cases h5 : k < 5
          · have go : ∀ f : Int, ∃ st : Int, (st != st) = false ∧ runSt f z len = st := fun f => ⟨_, by simp, rfl⟩
            by_cases h4 : k = 4
            · subst h4
              obtain ⟨st, hne, hst⟩ := go f
              clear go
              cases hok : runOk f z len
              all_goals
                have hv := show runV f z len = .tuple #[.int .i64 st, .bool _] from by rw [runV, hst, hok]
                clear hst hok
                go_wp2_with (first
                  | (go_at_call 8; refine (Run_to _ _ _ _ _ z _ hv hT1 hz1' hl hm).mono ?_; rintro e w2 ⟨rfl, hu2⟩; have hM2 := hM1.upto hu2)
                  | (go_at_call 9; refine (Run_ref_to _ _ _ _ _ z _ hv hM2 hl60).mono ?_; rintro e w3 ⟨rfl, hu3⟩))
                go_roundw
                case rel => exact ⟨5, by omega, by go_num, (huq.trans hu2).trans hu3⟩
                case measure => simp [intOf]
            · have h4' : ((k : Int) == 4) = false := beq_eq_false_iff_ne.2 (by omega)
              obtain ⟨st, hne, hst⟩ := go k
              clear go
              cases hok : runOk k z len
              all_goals
                have hv := show runV k z len = .tuple #[.int .i64 st, .bool _] from by rw [runV, hst, hok]
                clear hst hok
                go_wp2_with (first
                  | (go_at_call 8; refine (Run_to _ _ _ _ _ z _ hv hT1 hz1' hl hm).mono ?_; rintro e w2 ⟨rfl, hu2⟩; have hM2 := hM1.upto hu2)
                  | (go_at_call 9; refine (Run_ref_to _ _ _ _ _ z _ hv hM2 hl60).mono ?_; rintro e w3 ⟨rfl, hu3⟩))
                go_roundw
                case rel => exact ⟨k + 1, by omega, by go_num, (huq.trans hu2).trans hu3⟩
                case measure => simp [intOf]; omega
          · obtain rfl : k = 5 := by omega
            go_wp2_with (go_at_call 7; refine (stood_any _ hT1).mono ?_; rintro e w2 ⟨rfl, hu2⟩)
            go_ret
            exact ⟨rfl, (hu.trans huq).trans hu2⟩
end Go.Proofs.YtmgipmpnejphoaaDoor
