/- SlabPlay, walked (the head of it; the round is not walked yet). -/
import Derived.Test.YthfmngpocfofnaaPwAll
import Derived.Test.YthfmngpocfofnaaPwTest
namespace Go.Proofs.Ythfmngpocfofnaa
open Go Go.RowKit Go.Deep Md

set_option maxRecDepth 100000 in
set_option maxHeartbeats 2000000 in
theorem play_walk (n0 : Int) (a : Option Addr) (len cap : Nat) (z : Nat → ActV) (w : World) (_hn0 : -9223372036854775808 ≤ n0 ∧ n0 ≤ 9223372036854775807) (hm : len ≤ 9223372036854775807) (hz : ActsAt w a len z) :
    Calls Try.prog 5 #[.int .i64 n0, .slice a len cap] w fun e w' => e = .returned (.bool true) ∧ Below w.heap.size w w' := by
  by_cases hlen : 200 < len
  · go_enter Try.func5, Try.ntmps5
    go_wp2_with (go_at_call 7; refine (slotted_any _).mono ?_; rintro e w1 ⟨rfl, hu⟩)
    go_ret
    exact ⟨rfl, hu.below (Nat.le_refl _) (fun _ h => h.elim)⟩
  · by_cases hbad : n0 < 1 ∨ 256 < n0
    · go_enter Try.func5, Try.ntmps5
      go_wp2_with (first
        | (go_at_call 8; refine (New_err _ _ hbad).mono ?_; rintro e w1 ⟨rfl, rfl⟩)
        | (go_at_call 15; refine (New_ref_err _ _ hbad).mono ?_; rintro e w2 ⟨rfl, rfl⟩)
        | (go_at_call 7; refine (slotted_any _).mono ?_; rintro e w3 ⟨rfl, hu⟩))
      go_ret
      exact ⟨rfl, hu.below (Nat.le_refl _) (fun _ h => h.elim)⟩
    · obtain ⟨n, rfl⟩ := Int.eq_ofNat_of_zero_le (by omega : 0 ≤ n0)
      have hn1 : 1 ≤ n := by omega
      have hn2 : n ≤ 256 := by omega
      clear hbad
      go_enter Try.func5, Try.ntmps5
      go_wp2_with (first
        | (go_at_call 8; refine (New_ok _ n hn1 hn2).mono ?_; rintro e w1 ⟨rfl, hB, hu⟩)
        | (go_at_call 15; refine (New_ref _ n hn1 hn2).mono ?_; rintro e w2 ⟨rfl, ⟨g, gcap, hg, hR⟩, hu2⟩))
      have hlt1 := hB.lt
      have hP : PlayAt w w2 w.heap.size w1.heap.size g gcap (.slice none 0 0) (fresh n) [] :=
        ⟨hB.upto hu2 id, hR, World.ownsRow_nil _ _ _ _, (hu.below (Nat.le_refl _) (fun _ h => h.elim)).trans (hu2.below (by omega) (fun _ h => h.elim)), Nat.le_refl _, hlt1, hg⟩
      clear hB hu hu2 hR hg hlt1
      generalize w1.heap.size = r at hP ⊢
      go_loopw [9, 10] (fun vh i wr => ∃ (k : Nat) (st : St) (H : List (Nat × Nat)), k ≤ len ∧ i = .int .i64 k ∧ PlayAt w wr w.heap.size r g gcap vh st H ∧ H.length ≤ k ∧ st.length = n ∧ ∀ j, j < H.length → (H.getD j (0, 0)).1 < 256 ∧ (H.getD j (0, 0)).2 < 4294967296)
        (fun _ i _ => len - (intOf i).toNat)
      case atStart => exact ⟨0, _, _, by omega, rfl, hP, by simp, by simp [fresh], fun j hj => by simp at hj⟩
      case round =>
        clear hP
        obtain ⟨k, st, H, hk, rfl, hP, hHk, hst, hH⟩ := hrel
        have HSt := Lib.hid hst
        clear hst
        by_cases hlt : k < len
        · obtain ⟨hzk, bo, off, ha, hbo, hA⟩ := hz k hlt
          have hAr := hA.below hP.bel hbo
          obtain ⟨g1, g2, g3, g4, g5⟩ := hAr
          subst ha
          obtain ⟨ah, ch, hvh, hHV⟩ := hP.hadV
          subst hvh
          have own := Lib.hid hP.own
          have HV := Lib.hid hHV
          have hX := hP.start (z k) hzk
          have hkn := hzk.1
          have hkx := hzk.2.1
          clear hHV hzk
          have HH := Lib.hid hH
          clear hH
          go_upto_region 15 with (fail)
          generalize wr.alloc _ = W0 at hX ⊢
          generalize W0.alloc _ = W1 at hX ⊢
          have hX1 := hX
          clear hP hA g1 g2 g3 g4 g5 hz
          generalize wr.heap.size = xb at hX own ⊢
          have x0 := hX.x0
          have x1 := hX.x1
          have fy := hX.y.frozen
          go_cut [71] (fun v wc => v = .bool (decide ((z k).kind % 8 < 4) && decide (0 < H.length)) ∧ wc = W1)
          case first =>
            by_cases c1 : (z k).kind % 8 < 4
            · by_cases c2 : 0 < H.length
              · go_wp2_with fail
                go_meet
                case rel => exact ⟨by simp [c1, c2], rfl⟩
              · go_wp2_with fail
                go_meet
                case rel => exact ⟨by simp [c1, c2], rfl⟩
            · go_wp2_with fail
              go_meet
              case rel => exact ⟨by simp [c1], rfl⟩
          case rest =>
            obtain ⟨hv, rfl⟩ := hcut
            subst hv
            go_upto_if 71 with (fail)
            go_cut [] (fun wc => ∃ s t : Int, PX w wc w.heap.size r g gcap (.slice ah H.length ch) st st H xb (z k) s t)
            case first =>
              by_cases c : (z k).kind % 8 < 4 ∧ 0 < H.length
              · obtain ⟨q, hq⟩ := HV.out c.2
                subst hq
                obtain ⟨m, hm⟩ : ∃ m, m = (z k).at_ % H.length := ⟨_, rfl⟩
                have hmH : m < H.length := by rw [hm]; exact Nat.mod_lt _ c.2
                have hmod : (((z k).at_ : Nat) : Int) % ((H.length : Nat) : Int) = (m : Nat) := by rw [hm]; simp
                have hb : (decide ((z k).kind % 8 < 4) && decide (0 < H.length)) = true := by simp [c.1, c.2]
                obtain ⟨y1, y2⟩ := hX.hadAt m hmH
                have hS := HH.out m hmH
                generalize (H.getD m (0, 0)).1 = s at y1 hS
                generalize (H.getD m (0, 0)).2 = t at y2 hS
                have hlen := c.2
                have z0 := hX.y0
                have z1 := hX.y1
                have hX2 := Lib.hid (hX.take (s' := s) (t' := t) own.out (by omega) (by omega))
                clear hm c
                simp only [hb]
                go_wp2_with fail
                go_meet
                case rel => exact ⟨s, t, hX2.out⟩
              · have hb : (decide ((z k).kind % 8 < 4) && decide (0 < H.length)) = false := by simpa using c
                simp only [hb]
                go_wp2_with fail
                go_meet
                case rel => exact ⟨_, _, hX⟩
            case rest =>
              clear hX hX1 x0 x1 fy
              obtain ⟨s, t, hX⟩ := hcut
              have x0 := hX.x0
              obtain ⟨r8, hr⟩ : ∃ r8 : Nat, (((z k).kind : Nat) : Int) % 8 = r8 := ⟨(z k).kind % 8, by simp⟩
              have hr8 : r8 < 8 := by omega
              go_upto_block 2 with (fail)
              rw [hr]
              refine pw_all r8 hX own.out (by omega) hr8 ?_
              clear hX x0 hr
              intro d14 d15 d16 d17 d84 d85 d86 d87 d88 d89 d90 d91 d92 d93 d94 d95 d96 d97 d98 d99 d100 d101 d102 d103 d104 d105 d106 d107 d108 d109 d110 d111 d112 d113 d114 d115 d116 d117 d118 d119 d120 d121 d122 d123 d124 d125 d126 d127 d128 d129 d130 d131 d132 d133 d134 d135 d136 d137 d138 d139 d140 d141 d142 d143 d144 d145 d146 d147 d148 d149 d150 vh' w8 st' H' hX hN
              obtain ⟨c0, h0⟩ : ∃ c : Int, (cnt st' 0 : Int) = c := ⟨_, rfl⟩
              obtain ⟨c1, h1⟩ : ∃ c : Int, (cnt st' 1 : Int) = c := ⟨_, rfl⟩
              obtain ⟨c2, h2⟩ : ∃ c : Int, (cnt st' 2 : Int) = c := ⟨_, rfl⟩
              obtain ⟨t1, hs1⟩ : ∃ c : Int, stateI st' ((z k).at_ : Nat) = c := ⟨_, rfl⟩
              obtain ⟨t2, hs2⟩ : ∃ c : Int, stateI st' (z k).raw = c := ⟨_, rfl⟩
              obtain ⟨q1, hl1⟩ : ∃ q : Bool, liveB st' s t = q := ⟨_, rfl⟩
              obtain ⟨q2, hl2⟩ : ∃ q : Bool, liveB st' (z k).slot (z k).gen = q := ⟨_, rfl⟩
              have hsz := Lib.hid (show (st'.length : Int) = n from by rw [hN.len, HSt.out])
              have HN := Lib.hid hN
              replace h0 := Lib.hid h0
              replace h1 := Lib.hid h1
              replace h2 := Lib.hid h2
              replace hs1 := Lib.hid hs1
              replace hs2 := Lib.hid hs2
              replace hl1 := Lib.hid hl1
              replace hl2 := Lib.hid hl2
              have n0 : (c0 != c0) = false := by simp
              have n1 : (c1 != c1) = false := by simp
              have n2 : (c2 != c2) = false := by simp
              have n3 : (t1 != t1) = false := by simp
              have n4 : (t2 != t2) = false := by simp
              have n5 : (q1 != q1) = false := by simp
              have n6 : (q2 != q2) = false := by simp
              have n7 : ((n : Int) != (n : Int)) = false := by simp
              have hraw := hX.xok.2.2.2.2
              have hxs := hX.xok.2.2.1
              have hxg := hX.xok.2.2.2.1
              have hwr : IntKind.i64.wrap (((z k).at_ : Nat) : Int) = (((z k).at_ : Nat) : Int) := IntWalk.i64_in _ (by omega)
              have y0 := hX.y0
              have y1 := hX.y1
              have x1 := hX.x1
              have x2 := hX.x2
              have x3 := hX.x3
              have x4 := hX.x4
              clear hN
              go_upto_region 35 with (first
                | (go_at_call 12; ((with_reducible refine (XCount hX h0.out h1.out h2.out).mono ?_); rintro e w9 ⟨rfl, hX⟩; clear y0 y1 x1 x2 x3 x4; have y0 := hX.y0; have y1 := hX.y1; have x1 := hX.x1; have x2 := hX.x2; have x3 := hX.x3; have x4 := hX.x4))
                | (go_at_call 20; ((with_reducible refine (XCountR hX h0.out h1.out h2.out).mono ?_); rintro e w9 ⟨rfl, hX⟩; clear y0 y1 x1 x2 x3 x4; have y0 := hX.y0; have y1 := hX.y1; have x1 := hX.x1; have x2 := hX.x2; have x3 := hX.x3; have x4 := hX.x4)))
              refine pw_test n c0 c1 c2 hX (by rw [HN.out.len, HSt.out]) ?_
              intro e163 e164 e165 e166 e167 e168 e169 e170 e171 e172 e173 e174 e175 e176 e177 e178 e179 e180 e181 e182 e183 e184 e185 e186 e187 e188 e189 e190 e191 e192 e193 e194 e195 e196 e197 e198 e199 e200 e201 e202 e203 e204 e205 e206 e207 e208 e209 e210 e211 e212 e213 e214 e215 e216 e217 e218 e219 e220 e221 e222 e223 e224 e225 e226 e227 e228 w9 hX
              go_wp2
              go_roundw
              case rel => exact ⟨k + 1, st', H', by omega, by go_num, ⟨hX.slab, hX.ref, hX.had, hX.bel, hX.hw, hX.hb, hX.hr⟩, by have := HN.out.many; omega, by rw [HN.out.len, HSt.out], HN.out.each HH.out⟩
              case measure => simp [intOf]; omega
        · have hbl := hP.bel
          clear hH HSt
          go_wp2_with (go_at_call 7; refine (slotted_any _).mono ?_; rintro e w5 ⟨rfl, hu5⟩)
          go_ret
          exact ⟨rfl, hbl.trans (hu5.below hbl.size (fun _ h => h.elim))⟩
end Go.Proofs.Ythfmngpocfofnaa
