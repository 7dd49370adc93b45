/- SlabAll, walked. -/
import Derived.Test.YthfmngpocfofnaaMk
import Derived.Test.YthfmngpocfofnaaSlotted
namespace Go.Proofs.Ythfmngpocfofnaa
open Go Go.RowKit Go.Deep Md

/-- Of a slice of bytes that came in: each that is an element lies there, and is a byte. -/
def BytesAt (w : World) (a : Option Addr) (len : Nat) (z : Nat → Nat) : Prop :=
  ∀ k, k < len → z k < 256 ∧ ∃ b off, a = some ⟨b, off, none⟩ ∧ b < w.heap.size ∧ w.cell? ⟨b, off + k, none⟩ = some (.int .u8 (z k : Nat))

/-- The cells of the first k handles that were taken. -/
def hcells (k : Nat) : List Value := (List.range k).flatMap fun j => [.int .i64 (j : Nat), .int .u32 1]
theorem hcells_succ (k : Nat) : hcells (k + 1) = hcells k ++ [.int .i64 (k : Nat), .int .u32 1] := by
  simp [hcells, List.range_succ]

theorem Try.info31 : (Try.prog.info? 31).map (fun i => (i.zero, i.size, i.bytes)) = some (some (.agg #[.int .i64 0, .int .u32 0]), 2, 16) := by kernel_rfl

theorem Try.info3 : (Try.prog.info? 3).map (fun i => (i.zero, i.size, i.bytes)) = some (some (.int .i64 0), 1, 8) := by kernel_rfl

theorem New_all (w : World) (n : Nat) (h1 : 1 ≤ n) (h2 : n ≤ 256) (x : Int) (hx : x = n) : Calls Try.prog 8 #[.int .i64 x] w (Made n w) := by
  subst hx; exact New_ok w n h1 h2

theorem Upto.of_grown {w w' : World} {row : Option Nat} (hg : w.grownBy w' row) : Upto (fun k => row = some k) w w' :=
  (Upto.refl _ w).grown hg (fun _ h _ => h)
theorem pair_new (w : World) (x y : Value) (t : TypeId) : ∀ j u, [x, y][j]? = some u → (w.alloc (.cells #[x, y] t)).cell? ((⟨w.heap.size, 0, none⟩ : Addr).add j) = some u := by
  intro j u hj
  match j, hj with
  | 0, hj => simp at hj; subst hj; rw [Addr.add_lit]; exact new_1 w #[x, y] t 0 x rfl
  | 1, hj => simp at hj; subst hj; rw [Addr.add_lit]; exact new_1 w #[x, y] t 1 y rfl
theorem own_ne {w : World} {base e size n : Nat} {v : Value} {xs : List Value} (h : w.ownsRow base e size v n xs) {b : Nat} (hb : b < base) : ∀ k, v.ownBlock = some k → ¬ k = b :=
  fun k hk => by have := (h.lt k hk).1; omega

theorem hcells_length (k : Nat) : (hcells k).length = k * 2 := by
  induction k with
  | zero => rfl
  | succ k ih => rw [hcells_succ, List.length_append, ih]; simp; omega
theorem hcells_at (n j : Nat) (h : j < n) : (hcells n)[j * 2]? = some (.int .i64 (j : Nat)) ∧ (hcells n)[j * 2 + 1]? = some (.int .u32 1) := by
  induction n with
  | zero => omega
  | succ n ih =>
    rw [hcells_succ]
    by_cases e : j < n
    · rw [List.getElem?_append_left (by rw [hcells_length]; omega), List.getElem?_append_left (by rw [hcells_length]; omega)]
      exact ih e
    · obtain rfl : j = n := by omega
      rw [List.getElem?_append_right (by rw [hcells_length]; omega), List.getElem?_append_right (by rw [hcells_length]; omega), hcells_length]
      simp
theorem own_form {w : World} {base e size n : Nat} {v : Value} {xs : List Value} (h : w.ownsRow base e size v n xs) (hn : 0 < n) : ∃ g cap, v = .slice (some ⟨g, 0, none⟩) n cap ∧ base ≤ g ∧ g < w.heap.size := by
  rcases h.2 with ⟨_, h'⟩ | ⟨g, cap, cur, h', hb, hg, _⟩
  · omega
  · exact ⟨g, cap, h', hb, (Array.getElem?_eq_some_iff.1 hg).1⟩
/-- The handles that were taken, as they lie. -/
def LAt (w : World) (g n : Nat) : Prop := g < w.heap.size ∧ ∀ j, j < n → w.cell? ⟨g, j * 2, none⟩ = some (.int .i64 (j : Nat)) ∧ w.cell? ⟨g, j * 2 + 1, none⟩ = some (.int .u32 1)
theorem LAt.of_own {w : World} {base n g c : Nat} (h : w.ownsRow base 31 2 (.slice (some ⟨g, 0, none⟩) n c) n (hcells n)) : LAt w g n := by
  refine ⟨(h.lt g rfl).2, fun j hj => ?_⟩
  have h1 := h.cells (g := g) rfl (j * 2) _ (hcells_at n j hj).1
  have h2 := h.cells (g := g) rfl (j * 2 + 1) _ (hcells_at n j hj).2
  rw [Addr.add_lit, Nat.zero_add] at h1 h2
  exact ⟨h1, h2⟩
theorem LAt.upto {S : Nat → Prop} {w w' : World} {g n : Nat} (h : LAt w g n) (hu : Upto S w w') (hs : ¬ S g) : LAt w' g n :=
  ⟨Nat.lt_of_lt_of_le h.1 hu.size, fun j hj => ⟨hu.keep (h.2 j hj).1 hs, hu.keep (h.2 j hj).2 hs⟩⟩

/-- Which ones were given back, as the law keeps it. -/
def backF (B : Nat → Bool) (j : Nat) : Value := .int .i64 (if B j then 1 else 0)
theorem back0 (w : World) (n : Nat) : (w.alloc (.cells (madeCells #[.int .i64 0] n) 3)).rowIs w.heap.size 3 n (backF fun _ => false) := (World.rowIs_made w (.int .i64 0) n 3).congr fun _ _ => rfl
theorem back_set {w : World} {p n m : Nat} {B : Nat → Bool} (h : w.rowIs p 3 n (backF B)) : (w.setCell ⟨p, m, none⟩ (.int .i64 1)).rowIs p 3 n (backF fun j => if j = m then true else B j) :=
  (h.set m _).congr fun j _ => by
    show _ = Value.int .i64 (if (if j = m then true else B j) then 1 else 0)
    unfold backF
    by_cases e : j = m
    · rw [if_pos e, if_pos e]; rfl
    · rw [if_neg e, if_neg e]

set_option maxRecDepth 100000 in
set_option maxHeartbeats 1000000 in
theorem all_walk (a0 : Nat) (a : Option Addr) (len cap : Nat) (z : Nat → Nat) (w : World) (h0 : a0 < 256) (hm : len ≤ 9223372036854775807) (hz : BytesAt w a len z) :
    Calls Try.prog 3 #[.int .u8 a0, .slice a len cap] w fun e w' => e = .returned (.bool true) ∧ Below w.heap.size w w' := by
  by_cases hlen : 300 < len
  · go_enter Try.func3, Try.ntmps3
    go_wp2_with (go_at_call 7; refine (slotted_any _).mono ?_; rintro e w1 ⟨rfl, hu⟩)
    go_ret
    exact ⟨rfl, hu.below (Nat.le_refl _) (fun _ h => h.elim)⟩
  · obtain ⟨i0, hi, hz0, hz1, hz2⟩ := info_parts Try.info31
    obtain ⟨n, hn⟩ : ∃ n, n = a0 + 1 := ⟨_, rfl⟩
    have hn1 : 1 ≤ n := by omega
    have hn2 : n ≤ 256 := by omega
    have hx : (1 : Int) + a0 = n := by omega
    have Hn := Lib.hid hn
    clear hn
    go_enter Try.func3, Try.ntmps3
    go_wp2_with (go_at_call 8; refine (New_all _ n hn1 hn2 _ (by first | rfl | omega)).mono ?_; rintro e w1 ⟨rfl, hB, hu⟩)
    have Hx := Lib.hid hx
    clear hx
    rw [fresh_ph1] at hB
    have hlt1 := hB.lt
    have hbel : Below w.heap.size w w1 := hu.below (Nat.le_refl _) (fun _ h => h.elim)
    go_loopw [8, 9] (fun v i wr => ∃ k : Nat, k ≤ n ∧ i = .int .i64 k ∧ SlabAt wr w.heap.size (ph1 n k) ∧ wr.ownsRow (w.heap.size + 1) 31 2 v k (hcells k) ∧ Below w.heap.size w wr)
      (fun _ i _ => n - (intOf i).toNat)
    case atStart => exact ⟨0, by omega, rfl, hB, World.ownsRow_nil _ _ _ _, hbel⟩
    case round =>
      obtain ⟨k, hk, rfl, hBr, hown, hUr⟩ := hrel
      by_cases hlt : k < n
      · have hsz := hBr.lt
        go_wp2_with (first
          | (go_at_call 9; refine (Take_to _ _ (ph1 n k) (ph1 n (k + 1)) (.tuple #[hv k 1, .int .i64 0]) hBr (ph1_take hlt).1 (ph1_take hlt).2).mono ?_; rintro e w2 ⟨rfl, hB2, hu2⟩; have hown2 := (hu2.own hown (own_ne hown (by omega))).alloc (.cells #[.int .i64 k, .int .u32 1] 31))
          | (go_at_call 10; refine (Live_to _ _ (ph1 n (k + 1)) k 1 true (hB2.alloc _) (by omega) (by omega) (ph1_live hlt)).mono ?_; rintro e w3 ⟨rfl, hu3⟩; have A3 := hu3.keep (new_1 w2 #[.int .i64 k, .int .u32 1] 31 0 (.int .i64 k) rfl) id; have D3 := hu3.keep (new_1 w2 #[.int .i64 k, .int .u32 1] 31 1 (.int .u32 1) rfl) id; have hB3 := (hB2.alloc _).upto hu3 id; have hown3 := hu3.own hown2 (fun _ _ => id))
          | (at_builtin; refine wpList_append_own _ rfl _ _ 28 rfl (w.heap.size + 1) 31 i0 (.agg #[.int .i64 0, .int .u32 0]) 2 16 Try.underlying28 hi hz0 hz1 hz2 rfl (by decide) _ _ _ rfl (hown3.alloc _) ⟨w3.heap.size, 0, none⟩ 1 1 [.int .i64 k, .int .u32 1] rfl rfl ?c1 ?c2 ?c3 ?c4 ?c5 ?_))
        case c1 => exact pair_new _ _ _ _
        case c2 => intro u hu; simp at hu; rcases hu with rfl | rfl <;> rfl
        case c3 => unfold maxLen; omega
        case c4 => omega
        case c5 => have := hB3.lt; simp; omega
        intro v' w4 hown4 hg4 _
        have hug := Upto.of_grown hg4
        have hne : ¬ (u8.ownBlock = some w.heap.size) := fun h => own_ne hown (b := w.heap.size) (by omega) _ h rfl
        have hB4 := (hB3.alloc (.cells #[.int .i64 k, .int .u32 1] 31)).upto hug hne
        rw [← hcells_succ] at hown4
        have hU4 : Below w.heap.size w w4 := (((((hUr.trans (hu2.below (by omega) (fun j hj => by rw [hj]; exact Nat.le_refl _))).alloc (by have := hB2.lt; omega) _).trans (hu3.below (by have := hB2.lt; simp; omega) (fun _ h => h.elim))).alloc (by have := hB3.lt; omega) _).grown hg4 (by have := hB3.lt; simp; omega) (fun j hj => by have := (hown.lt j hj).1; omega))
        clear hg4 hug hown3 hB3 hown2 hB2 hu2 hu3 A3 D3
        go_wp2
        go_roundw
        case rel => exact ⟨k + 1, by omega, by go_num, hB4, hown4, hU4⟩
        case measure => simp [intOf]; omega
      · obtain rfl : n = k := by omega
        obtain ⟨g, cp, hv, hg1, hg2⟩ := own_form hown (by omega)
        rw [hv] at hown
        rw [hv]
        clear hv
        have hL := LAt.of_own hown
        have hgb : ¬ g = w.heap.size := by omega
        have hmk := run_make_row' (P := Try.prog) 35 3 (.int .i64 0) 8 Try.underlying35 Try.info3 rfl .i64 .i64 n (by omega) (by omega)
        clear hown
        go_wp2_with (first
          | (go_at_call 9; refine (Take_to _ _ (ph1 n n) (ph2 n (fun _ => false)) (.tuple #[hv 0 0, .int .i64 8]) hBr ((ph1_full n).1.trans (ph1_ph2 n)) (ph1_full n).2).mono ?_; rintro e w2 ⟨rfl, hB2, hu2⟩))
        have l2 := hB2.lt
        have hR := back0 (w2.alloc (.cells #[.int .i64 0, .int .u32 0] 31)) n
        have hB3 := (hB2.alloc (.cells #[.int .i64 0, .int .u32 0] 31)).alloc (.cells (madeCells #[.int .i64 0] n) 3)
        have hL3 := hL.upto ((hu2.alloc (.cells #[.int .i64 0, .int .u32 0] 31)).alloc (.cells (madeCells #[.int .i64 0] n) 3)) hgb
        have hU3 := ((hUr.trans (hu2.below (by have := hBr.lt; omega) (fun j hj => by rw [hj]; exact Nat.le_refl _))).alloc (by omega) (.cells #[.int .i64 0, .int .u32 0] 31)).alloc (by simp; omega) (.cells (madeCells #[.int .i64 0] n) 3)
        have hpg : ¬ w2.heap.size + 1 = g := by have := hL.1; have := hu2.size; omega
        have hpb : ¬ w2.heap.size + 1 = w.heap.size := by omega
        have hpw : w.heap.size ≤ w2.heap.size + 1 := by omega
        rw [World.size_alloc] at hR
        generalize (w2.alloc (.cells #[.int .i64 0, .int .u32 0] 31)).alloc (.cells (madeCells #[.int .i64 0] n) 3) = W3 at hR hB3 hL3 hU3 ⊢
        generalize w2.heap.size + 1 = p at hR hpg hpb hpw ⊢
        clear hmk hL hu2 hB2 l2 hUr hBr hB hbel hlt1 hlt
        go_loopw [15] (fun i wr => ∃ (k : Nat) (B : Nat → Bool), k ≤ len ∧ i = .int .i64 k ∧ SlabAt wr w.heap.size (ph2 n B) ∧ LAt wr g n ∧ wr.rowIs p 3 n (backF B) ∧ Below w.heap.size w wr)
          (fun i _ => len - (intOf i).toNat)
        case atStart => exact ⟨0, _, by omega, rfl, hB3, hL3, hR, hU3⟩
        case round =>
          clear hB3 hL3 hR hU3
          obtain ⟨k, B, hk, rfl, hBr, hLr, hRr, hUr⟩ := hrel
          by_cases hlt : k < len
          · obtain ⟨hzk, bo, off, ha, hbo, hc⟩ := hz k hlt
            have hcr := (hUr.cell (p := ⟨bo, off + k, none⟩) hbo).trans hc
            obtain ⟨m, hm⟩ : ∃ m, m = z k % n := ⟨_, rfl⟩
            have hmn : m < n := by rw [hm]; exact Nat.mod_lt _ (by omega)
            have Hm := Lib.hid hm
            subst ha
            clear hm hc
            have q1 := (hLr.2 m hmn).1
            have q2 := (hLr.2 m hmn).2
            have q4 := hRr.frozen
            cases hb : B m
            · have q3 : wr.cell? ⟨p, m, none⟩ = some (.int .i64 0) := by rw [hRr.cell (i := m) hmn, backF, hb]; rfl
              have hG := (ph2_give (B := B) hmn)
              rw [hb] at hG
              have G1 := Lib.hid hG.1
              have G2 := Lib.hid hG.2
              have Hb := Lib.hid hb
              clear hb hG
              go_wp2_with fail
              rw [show ((z k : Nat) : Int) % (n : Int) = ((m : Nat) : Int) from by rw [Hm.out]; simp]
              go_region_held3 (fun w' => w'.cell? ⟨g, m * 2, none⟩ = some (.int .i64 (m : Nat)) ∧ w'.cell? ⟨g, m * 2 + 1, none⟩ = some (.int .u32 1) ∧ w'.cell? ⟨p, m, none⟩ = some (.int .i64 0))
                (first | exact ⟨q1, q2, q3⟩ | exact ⟨hu2.keep q1 hgb, hu2.keep q2 hgb, hu2.keep q3 hpb⟩)
                (first
                  | (go_at_call 11; refine (Give_to _ _ (ph2 n B) (ph2 n (fun j => if j = m then true else B j)) m 1 0 hBr.drew (by omega) (by omega) G1.out G2.out).mono ?_; rintro e w2 ⟨rfl, hB2, hu2⟩))
              have q5 := hu2.keep q3 hpb
              have hR2 := hu2.row hRr.drew hpb
              have q6 := hR2.frozen
              have hL2 := LAt.upto (w := wr.drew) hLr hu2 hgb
              have hU2 := hUr.drew.trans (hu2.below (by have := hBr.lt; simp; omega) (fun j hj => by rw [hj]; exact Nat.le_refl _))
              clear q1 q2 q3 q4 hu2 hRr hLr hUr hBr
              go_wp2
              go_roundw
              case rel => exact ⟨k + 1, _, by omega, by go_num, hB2.upto ((Upto.refl (· = p) _).setB rfl _) (Ne.symm hpb), hL2.upto ((Upto.refl (· = p) _).setB rfl _) (Ne.symm hpg), back_set hR2, hU2.setCell (p := ⟨p, m, none⟩) hpw _⟩
              case measure => simp [intOf]; omega
            · have q3 : wr.cell? ⟨p, m, none⟩ = some (.int .i64 1) := by rw [hRr.cell (i := m) hmn, backF, hb]; rfl
              have hG := (ph2_give (B := B) hmn)
              rw [hb] at hG
              have G1 := Lib.hid hG.1
              have G2 := Lib.hid hG.2
              have Hb := Lib.hid hb
              clear hb hG
              go_wp2_with fail
              rw [show ((z k : Nat) : Int) % (n : Int) = ((m : Nat) : Int) from by rw [Hm.out]; simp]
              go_region_held3 (fun w' => w'.cell? ⟨g, m * 2, none⟩ = some (.int .i64 (m : Nat)) ∧ w'.cell? ⟨g, m * 2 + 1, none⟩ = some (.int .u32 1) ∧ w'.cell? ⟨p, m, none⟩ = some (.int .i64 1))
                (first | exact ⟨q1, q2, q3⟩ | exact ⟨hu2.keep q1 hgb, hu2.keep q2 hgb, hu2.keep q3 hpb⟩)
                (first
                  | (go_at_call 11; refine (Give_to _ _ (ph2 n B) (ph2 n (fun j => if j = m then true else B j)) m 1 9 hBr.drew (by omega) (by omega) G1.out G2.out).mono ?_; rintro e w2 ⟨rfl, hB2, hu2⟩))
              have q5 := hu2.keep q3 hpb
              have hR2 := hu2.row hRr.drew hpb
              have q6 := hR2.frozen
              have hL2 := LAt.upto (w := wr.drew) hLr hu2 hgb
              have hU2 := hUr.drew.trans (hu2.below (by have := hBr.lt; simp; omega) (fun j hj => by rw [hj]; exact Nat.le_refl _))
              clear q1 q2 q3 q4 hu2 hRr hLr hUr hBr
              go_wp2
              go_roundw
              case rel => exact ⟨k + 1, _, by omega, by go_num, hB2.upto ((Upto.refl (· = p) _).setB rfl _) (Ne.symm hpb), hL2.upto ((Upto.refl (· = p) _).setB rfl _) (Ne.symm hpg), back_set hR2, hU2.setCell (p := ⟨p, m, none⟩) hpw _⟩
              case measure => simp [intOf]; omega
          · obtain rfl : len = k := by omega
            rw [ph2_ph3] at hBr
            clear hlt hk hpw
            go_wp2
            go_loopw [17] (fun i wr => ∃ k : Nat, k ≤ n ∧ i = .int .i64 k ∧ SlabAt wr w.heap.size (ph3 n B k) ∧ LAt wr g n ∧ wr.rowIs p 3 n (backF B) ∧ Below w.heap.size w wr)
              (fun i _ => n - (intOf i).toNat)
            case atStart => exact ⟨0, by omega, rfl, hBr, hLr, hRr, hUr⟩
            case round =>
              clear hBr hLr hRr hUr
              obtain ⟨k, hk, rfl, hBr, hLr, hRr, hUr⟩ := hrel
              by_cases hlt : k < n
              · have q4 := hRr.frozen
                cases hb : B k
                · have q3 : wr.cell? ⟨p, k, none⟩ = some (.int .i64 0) := by rw [hRr.cell (i := k) hlt, backF, hb]; rfl
                  rw [ph3_skip hb] at hBr
                  clear hb
                  go_wp2
                  go_roundw
                  case rel => exact ⟨k + 1, by omega, by go_num, hBr, hLr, hRr, hUr⟩
                  case measure => simp [intOf]; omega
                · have q3 : wr.cell? ⟨p, k, none⟩ = some (.int .i64 1) := by rw [hRr.cell (i := k) hlt, backF, hb]; rfl
                  have q1 := (hLr.2 k hlt).1
                  have q2 := (hLr.2 k hlt).2
                  have Hb := Lib.hid hb
                  clear hb
                  go_wp2_with (first
                    | (go_at_call 9; refine (Take_to _ _ (ph3 n B k) (ph3 n B (k + 1)) (.tuple #[hv k 2, .int .i64 0]) hBr (ph3_take hlt Hb.out).1 (ph3_take hlt Hb.out).2).mono ?_; rintro e w2 ⟨rfl, hB2, hu2⟩))
                  have hL2 := hLr.upto (hu2.alloc (.cells #[.int .i64 k, .int .u32 2] 31)) hgb
                  have hR2 := (hu2.row hRr hpb).alloc (.cells #[.int .i64 k, .int .u32 2] 31)
                  have hB3 := hB2.alloc (.cells #[.int .i64 k, .int .u32 2] 31)
                  have hU2 := (hUr.trans (hu2.below (by have := hBr.lt; omega) (fun j hj => by rw [hj]; exact Nat.le_refl _))).alloc (by have := hB2.lt; omega) (.cells #[.int .i64 k, .int .u32 2] 31)
                  have z1 := new_1 w2 #[.int .i64 k, .int .u32 2] 31 0 (.int .i64 k) rfl
                  have z2 := new_1 w2 #[.int .i64 k, .int .u32 2] 31 1 (.int .u32 2) rfl
                  have q1 := (hL2.2 k hlt).1
                  have q2 := (hL2.2 k hlt).2
                  generalize w2.alloc (.cells #[.int .i64 k, .int .u32 2] 31) = W4 at hL2 hR2 hB3 hU2 z1 z2 q1 q2 ⊢
                  generalize w2.heap.size = q at z1 z2 ⊢
                  clear hu2 hB2 hBr hLr hRr hUr
                  go_region_held3 (fun w' => (w'.cell? ⟨g, k * 2, none⟩ = some (.int .i64 (k : Nat)) ∧ w'.cell? ⟨g, k * 2 + 1, none⟩ = some (.int .u32 1)) ∧ w'.cell? ⟨q, 0, none⟩ = some (.int .i64 k) ∧ w'.cell? ⟨q, 1, none⟩ = some (.int .u32 2))
                    (first | exact ⟨⟨q1, q2⟩, z1, z2⟩ | exact ⟨⟨hu3.keep q1 id, hu3.keep q2 id⟩, hu3.keep z1 id, hu3.keep z2 id⟩)
                    (first
                      | (go_at_call 10; refine (Live_to _ _ (ph3 n B (k + 1)) k 1 false hB3.drew (by omega) (by omega) (ph3_dead hlt Hb.out)).mono ?_; rintro e w3 ⟨rfl, hu3⟩))
                  go_wp2
                  go_roundw
                  case rel => exact ⟨k + 1, by omega, by go_num, (hB3.drew).upto hu3 id, LAt.upto (w := W4.drew) hL2 hu3 id, hu3.row (w := W4.drew) hR2 id, hU2.drew.trans (hu3.below (by have := hB3.lt; simp; omega) (fun _ h => h.elim))⟩
                  case measure => simp [intOf]; omega
              · obtain rfl : n = k := by omega
                go_wp2_with (first
                  | (go_at_call 9; refine (Take_to _ _ (ph3 n B n) (ph3 n B n) (.tuple #[hv 0 0, .int .i64 8]) hBr (ph3_full n B).1 (ph3_full n B).2).mono ?_; rintro e w2 ⟨rfl, hB2, hu2⟩)
                  | (go_at_call 7; refine (slotted_any _).mono ?_; rintro e w5 ⟨rfl, hu5⟩))
                go_ret
                exact ⟨rfl, ((hUr.trans (hu2.below (by have := hBr.lt; omega) (fun j hj => by rw [hj]; exact Nat.le_refl _))).alloc (by have := hB2.lt; omega) _).trans (hu5.below (by have := hB2.lt; simp; omega) (fun _ h => h.elim))⟩
end Go.Proofs.Ythfmngpocfofnaa
