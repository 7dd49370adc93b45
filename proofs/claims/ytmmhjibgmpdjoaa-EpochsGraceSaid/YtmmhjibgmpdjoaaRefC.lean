/- The reference's Defer, walked. -/
import Derived.Test.YtmmhjibgmpdjoaaRefB
namespace Go.Proofs.Ytmmhjibgmpdjoaa
open Go Go.RowKit Go.Deep Md

theorem pcl_one (H : List (Nat × Nat)) : ∀ u ∈ pcl H, u.oneCell' = true := by
  intro u hu
  simp only [pcl, List.mem_flatMap] at hu
  obtain ⟨p, _, hp⟩ := hu
  simp at hp
  rcases hp with rfl | rfl <;> rfl
theorem none_ne {k : Nat} : ¬ ((Value.slice none 0 0).ownBlock = some k) := by simp [Value.ownBlock]
theorem lie_ge {g H : Nat} (hat : (Value.slice none 0 0).ownBlock = some g ∨ g = H) : H ≤ g := by
  rcases hat with h | h
  · simp [Value.ownBlock] at h
  · omega
theorem own1 {w : World} {base e size g n c : Nat} {xs : List Value} (h : w.ownsRow base e size (.slice (some ⟨g, 0, none⟩) (0 + n) c) (0 + n) ([] ++ xs)) : w.ownsRow base e size (.slice (some ⟨g, 0, none⟩) n c) n xs := by simpa using h
theorem up_none {w w' w'' : World} (h : Upto NoS w w') (hg : w'.grownBy w'' (Value.slice none 0 0).ownBlock) : Upto NoS w w'' := h.grown hg (fun k hk _ => by simp [Value.ownBlock] at hk)
theorem up_g {w w' w'' : World} {g n c : Nat} (h : Upto NoS w w') (hg : w'.grownBy w'' (Value.slice (some ⟨g, 0, none⟩) n c).ownBlock) (hge : w.heap.size ≤ g) : Upto NoS w w'' :=
  h.grown hg (fun k hk hlt => by simp [Value.ownBlock] at hk; omega)
theorem pair_cells {w : World} {b : Nat} {x y : Value} (h0 : w.cell? ⟨b, 0, none⟩ = some x) (h1 : w.cell? ⟨b, 1, none⟩ = some y) : ∀ j u, [x, y][j]? = some u → w.cell? ((⟨b, 0, none⟩ : Addr).add j) = some u := by
  intro j u hj
  match j, hj with
  | 0, hj => simp at hj; subst hj; rw [Addr.add_lit]; exact h0
  | 1, hj => simp at hj; subst hj; rw [Addr.add_lit]; exact h1
/-- What is kept, and one more. -/
theorem more_ok {E : Ep} (h : E.Ok) {n : Nat} (hn : n < 256) : ∀ j, j < (E.wt ++ [(n, E.now)]).length → ((E.wt ++ [(n, E.now)]).getD j (0, 0)).1 < 256 ∧ ((E.wt ++ [(n, E.now)]).getD j (0, 0)).2 ≤ E.now := by
  intro j hj
  have hlen : (E.wt ++ [(n, E.now)]).length = E.wt.length + 1 := by simp
  rw [hlen] at hj
  by_cases ej : j = E.wt.length
  · subst ej; simp; omega
  · have := h.wt j (by omega)
    simp only [List.getD] at this ⊢
    rw [List.getElem?_append_left (by omega)]
    exact this

set_option maxRecDepth 100000 in
set_option maxHeartbeats 4000000 in
theorem Defer_r (w : World) (y s cs : Nat) (vl : Value) (E : Ep) (sl : Int) (h : RefAt w y s cs vl E) (_h1 : -9223372036854775808 ≤ sl) (_h2 : sl ≤ 9223372036854775807) (hm : E.wt.length < 1000000) :
    Calls Try.prog 21 #[.pointer (some ⟨y, 0, none⟩), .int .i64 sl] w (RNewP y s cs vl (defSt E sl) w (.int .i64 (defE E sl))) := by
  by_cases g0 : sl < 0 ∨ 256 ≤ sl
  · have hE : defE E sl = 2 := if_pos g0
    rw [show defSt E sl = E by unfold defSt; rw [hE]; rfl, hE]
    rcases g0 with g1 | g1
    · clear hE
      go_enter Try.func21, Try.ntmps21
      go_wp2
      go_ret
      exact ⟨rfl, vl, h, Upto.refl _ _, fun k hk => .inl hk⟩
    · clear hE
      have g2 : ¬ sl < 0 := by omega
      go_enter Try.func21, Try.ntmps21
      go_wp2
      go_ret
      exact ⟨rfl, vl, h, Upto.refl _ _, fun k hk => .inl hk⟩
  · have g1 : ¬ sl < 0 := by omega
    have g2 : ¬ 256 ≤ sl := by omega
    obtain ⟨n, rfl⟩ := Int.eq_ofNat_of_zero_le (by omega : 0 ≤ sl)
    obtain ⟨a, c, hvt, ha⟩ := own_slice h.wt
    subst hvt
    have HA := Lib.hid ha
    have hc0 := h.c0
    have hc2 := h.c2
    clear ha _h1 _h2
    cases hq : has E.wt n
    · have hE : defE E n = 0 := by unfold defE; rw [if_neg g0, hq]; rfl
      rw [show defSt E n = { E with wt := E.wt ++ [(n, E.now)] } by unfold defSt; rw [hE]; rfl, hE]
      have hno : ∀ j, j < E.wt.length → hsAt (n : Int) E.wt j = false := fun j hj => by
        cases hb : hsAt (n : Int) E.wt j
        · rfl
        · have := has_at.1 ⟨j, hj, hb⟩; rw [hq] at this; cases this
      have HN := Lib.hid hno
      obtain ⟨i0, hi, hz0, hz1, hz2⟩ := info_parts Try.info63
      have HNil := Lib.hid h.nil0
      have hyl := h.lt
      have hf2 := h.row.frozen 2
      have HOK := Lib.hid h.ok
      have hlen : (E.wt ++ [(n, E.now)]).length = E.wt.length + 1 := by simp
      have HLEN := Lib.hid hlen
      have hmany := h.ok.many
      clear g0 hE hq hno hlen
      go_enter Try.func21, Try.ntmps21
      go_wp2_with fail
      go_loopw [5] (fun v wr => ∃ k : Nat, k ≤ E.wt.length ∧ v = .int .i64 k ∧ wr = w) (fun v _ => E.wt.length - (intOf v).toNat)
      case atStart => exact ⟨0, by omega, rfl, rfl⟩
      case round =>
        obtain ⟨k, hk, rfl, rfl⟩ := hrel
        by_cases hlt : k < E.wt.length
        · obtain ⟨q, hq⟩ := HA.out (by omega)
          subst hq
          have s0 := (own_pcl h.wt k hlt).1
          have hne : ((p1 E.wt k : Int) == (n : Int)) = false := HN.out k hlt
          go_wp2
          go_roundw
          case rel => first | exact ⟨k + 1, by omega, by go_num, rfl⟩ | exact ⟨k + 1, by omega, by go_num, trivial⟩
          case measure => simp [intOf]; omega
        · obtain rfl : k = E.wt.length := by omega
          clear hlt hk
          have k0 := new_1 wr #[.int .i64 (n : Nat), .int .i64 (E.now : Nat)] 63 0 (.int .i64 (n : Nat)) rfl
          have k1 := new_1 wr #[.int .i64 (n : Nat), .int .i64 (E.now : Nat)] 63 1 (.int .i64 (E.now : Nat)) rfl
          have kc2 := keep_alloc hc2 (.cells #[.int .i64 (n : Nat), .int .i64 (E.now : Nat)] 63)
          have kc0 := keep_alloc hc0 (.cells #[.int .i64 (n : Nat), .int .i64 (E.now : Nat)] 63)
          have kf2 := (h.alloc (.cells #[.int .i64 (n : Nat), .int .i64 (E.now : Nat)] 63)).row.frozen 2
          by_cases h0 : E.wt.length = 0
          · have hv := HNil.out h0
            simp only [Value.slice.injEq] at hv
            obtain ⟨rfl, _, rfl⟩ := hv
            have HH0 := Lib.hid h0
            rw [h0] at hc2 kc2
            go_wp2_with fail
            go_region_law (first
              | ((refine step_append_lies _ (by rfl) (.tmp 36) (.tmp 43) 52 (by rfl) (y + 1) 63 i0 _ 2 16 Try.underlying52 hi hz0 hz1 hz2 rfl (by omega) (.slice none 0 0) 0 [] (by rfl) (World.ownsRow_nil (wr.alloc (.cells #[.int .i64 (n : Nat), .int .i64 (E.now : Nat)] 63)).drew (y + 1) 63 2) ⟨wr.heap.size, 0, none⟩ 1 1 [.int .i64 (n : Nat), .int .i64 (E.now : Nat)] (by rfl) (by rfl) (World.news_of_block (cs := #[.int .i64 (n : Nat), .int .i64 (E.now : Nat)]) (t := 63) (fr := (0, 0)) (heap_alloc_new wr _)) (pair_one _ _ _ _) (by omega) (by unfold maxLen; omega) (by omega) (by first | omega | (simp; omega)) (wr.heap.size + 1) (by first | rfl | simp) ?_; intro g2 c2 w6 hown2 hgrow2 hat2 hlt2; have U6 := up_none ((Upto.refl NoS wr).alloc (.cells #[.int .i64 (n : Nat), .int .i64 (E.now : Nat)] 63)).drew hgrow2; have z2 := U6.keep hc2 id; have zf := (U6.frozen (p := ⟨y, 2, none⟩) hyl id).trans hf2))
              | fail)
            all_goals go_wp2
            all_goals go_ret
            all_goals
              have R6 := h.upto U6
              refine ⟨rfl, .slice (some ⟨g2, 0, none⟩) (0 + 1) c2, ?_, (U6.mono (fun _ _ h => h.elim)).setB (.inl rfl) _, fun k hk => ?_⟩
              · exact RefAt.setT R6.row R6.said (H := E.wt ++ [(n, E.now)]) (by rw [pcl_snoc, HLEN.out]; rw [show E.wt.length = 0 from HH0.out]; have hw : E.wt = [] := List.length_eq_zero_iff.1 HH0.out; rw [hw]; exact hown2) HOK.out (by rw [HLEN.out]; omega) (more_ok HOK.out (by omega)) (fun hz => by rw [HLEN.out] at hz; omega)
              · have hk' : g2 = k := (by simpa [Value.ownBlock] using hk)
                right
                have := lie_ge hat2
                omega
          · obtain ⟨q, hq⟩ := HA.out (by omega)
            subst hq
            have hpl := pcl_length E.wt
            have HPL := Lib.hid hpl
            have hsrc := Lib.hid (fun j u hj => h.wt.cells (g := q) rfl j u hj)
            clear hpl
            go_wp2_with fail
            go_region_law (first
              | ((refine step_append_lies _ (by rfl) (.const (.slice none 0 0)) (.tmp 35) 52 (by rfl) (y + 1) 63 i0 _ 2 16 Try.underlying52 hi hz0 hz1 hz2 rfl (by omega) (.slice none 0 0) 0 [] (by rfl) (World.ownsRow_nil wr.drew (y + 1) 63 2) ⟨q, 0, none⟩ E.wt.length c (pcl E.wt) (by rfl) HPL.out hsrc.out (pcl_one _) (by omega) (by unfold maxLen; omega) (by omega) (by first | omega | (simp; omega)) wr.heap.size (by first | rfl | simp) ?_; intro g1 c1 w5 hown1 hgrow1 hat1 hlt1; have U5 := up_none (Upto.refl NoS wr).drew hgrow1; have ho1 := own1 hown1; have hge1 := lie_ge hat1; have a0 := U5.keep hc0 id; have hs5 := U5.size; have tok : wr.heap.size ≤ wr.heap.size + 1 := by omega))
              | ((refine step_append_lies _ (by rfl) (.const (.slice none 0 0)) (.tmp 35) 52 (by rfl) (y + 1) 63 i0 _ 2 16 Try.underlying52 hi hz0 hz1 hz2 rfl (by omega) (.slice none 0 0) 0 [] (by rfl) (World.ownsRow_nil (wr.alloc (.cells #[.int .i64 (n : Nat), .int .i64 (E.now : Nat)] 63)).drew (y + 1) 63 2) ⟨q, 0, none⟩ E.wt.length c (pcl E.wt) (by rfl) HPL.out (fun j u hj => keep_alloc (hsrc.out j u hj) _) (pcl_one _) (by omega) (by unfold maxLen; omega) (by omega) (by first | omega | (simp; omega)) (wr.heap.size + 1) (by first | rfl | simp) ?_; intro g1 c1 w5 hown1 hgrow1 hat1 hlt1; have U5 := up_none ((Upto.refl NoS wr).alloc (.cells #[.int .i64 (n : Nat), .int .i64 (E.now : Nat)] 63)).drew hgrow1; have ho1 := own1 hown1; have hge1 : wr.heap.size ≤ g1 := Nat.le_of_succ_le (lie_ge hat1); have b0 := (Upto.of_grown hgrow1).keep (w := (wr.alloc (.cells #[.int .i64 (n : Nat), .int .i64 (E.now : Nat)] 63)).drew) k0 none_ne; have b1 := (Upto.of_grown hgrow1).keep (w := (wr.alloc (.cells #[.int .i64 (n : Nat), .int .i64 (E.now : Nat)] 63)).drew) k1 none_ne; have hs5 := U5.size))
              | ((refine step_append_lies _ (by rfl) (.tmp 36) (.tmp 43) 52 (by rfl) (y + 1) 63 i0 _ 2 16 Try.underlying52 hi hz0 hz1 hz2 rfl (by omega) (.slice (some ⟨g1, 0, none⟩) E.wt.length c1) E.wt.length (pcl E.wt) (by rfl) (ho1.alloc _) ⟨w5.heap.size, 0, none⟩ 1 1 [.int .i64 (n : Nat), .int .i64 (E.now : Nat)] (by rfl) (by rfl) (World.news_of_block (cs := #[.int .i64 (n : Nat), .int .i64 (E.now : Nat)]) (t := 63) (fr := (0, 0)) (heap_alloc_new w5 _)) (pair_one _ _ _ _) (by omega) (by unfold maxLen; omega) (by omega) (by first | omega | (simp; omega)) (w5.heap.size + 1) (by first | rfl | simp) ?_; intro g2 c2 w6 hown2 hgrow2 hat2 hlt2; have U6 := up_g (U5.alloc (.cells #[.int .i64 (n : Nat), .int .i64 (E.now : Nat)] 63)) hgrow2 hge1; have z2 := U6.keep hc2 id; have zf := (U6.frozen (p := ⟨y, 2, none⟩) hyl id).trans hf2))
              | ((refine step_append_lies _ (by rfl) (.tmp 36) (.tmp 43) 52 (by rfl) (y + 1) 63 i0 _ 2 16 Try.underlying52 hi hz0 hz1 hz2 rfl (by omega) (.slice (some ⟨g1, 0, none⟩) E.wt.length c1) E.wt.length (pcl E.wt) (by rfl) ho1 ⟨wr.heap.size, 0, none⟩ 1 1 [.int .i64 (n : Nat), .int .i64 (E.now : Nat)] (by rfl) (by rfl) (pair_cells b0 b1) (pair_one _ _ _ _) (by omega) (by unfold maxLen; omega) (by omega) (by first | omega | (simp; omega)) w5.heap.size (by first | rfl | simp) ?_; intro g2 c2 w6 hown2 hgrow2 hat2 hlt2; have U6 := up_g U5 hgrow2 hge1; have z2 := U6.keep hc2 id; have zf := (U6.frozen (p := ⟨y, 2, none⟩) hyl id).trans hf2)))
            all_goals go_wp2
            all_goals go_ret
            all_goals
              have R6 := h.upto U6
              refine ⟨rfl, .slice (some ⟨g2, 0, none⟩) (E.wt.length + 1) c2, ?_, (U6.mono (fun _ _ h => h.elim)).setB (.inl rfl) _, fun k hk => ?_⟩
              · exact RefAt.setT R6.row R6.said (H := E.wt ++ [(n, E.now)]) (by rw [pcl_snoc, HLEN.out]; exact hown2) HOK.out (by rw [HLEN.out]; omega) (more_ok HOK.out (by omega)) (fun hz => by rw [HLEN.out] at hz; omega)
              · have hk' : g2 = k := (by simpa [Value.ownBlock] using hk)
                right
                rcases hat2 with h2 | h2
                · have h3 : g1 = g2 := (by simpa [Value.ownBlock] using h2)
                  omega
                · omega
    · have hE : defE E n = 7 := by unfold defE; rw [if_neg g0, hq]; rfl
      rw [show defSt E n = E by unfold defSt; rw [hE]; rfl, hE]
      obtain ⟨i, hi, hp, hno⟩ := first_of (has_at.2 hq)
      have HN := Lib.hid hno
      have HP := Lib.hid hp
      clear g0 hE hq hno hp
      go_enter Try.func21, Try.ntmps21
      go_wp2_with fail
      go_loopw [5] (fun v wr => ∃ k : Nat, k ≤ i ∧ v = .int .i64 k ∧ wr = w) (fun v _ => E.wt.length - (intOf v).toNat)
      case atStart => exact ⟨0, by omega, rfl, rfl⟩
      case round =>
        obtain ⟨k, hk, rfl, rfl⟩ := hrel
        have hlt : k < E.wt.length := by omega
        obtain ⟨q, hq⟩ := HA.out (by omega)
        subst hq
        have s0 := (own_pcl h.wt k hlt).1
        by_cases hki : k < i
        · have hne : ((p1 E.wt k : Int) == (n : Int)) = false := HN.out k hki
          go_wp2
          go_roundw
          case rel => first | exact ⟨k + 1, by omega, by go_num, rfl⟩ | exact ⟨k + 1, by omega, by go_num, trivial⟩
          case measure => simp [intOf]; omega
        · obtain rfl : k = i := by omega
          have hne : ((p1 E.wt k : Int) == (n : Int)) = true := HP.out
          go_wp2
          go_ret
          exact ⟨rfl, _, h, Upto.refl _ _, fun k hk => .inl hk⟩
end Go.Proofs.Ytmmhjibgmpdjoaa
