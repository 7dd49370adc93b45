/- SlabOnce, walked. -/
import Derived.Test.YthfmngpocfofnaaSwAll
import Derived.Deep.CutBlock
namespace Go.Proofs.Ythfmngpocfofnaa
open Go Go.RowKit Go.Deep Md

theorem gone0 (w : World) (n : Nat) : (w.alloc (.cells (madeCells #[.bool false] n) 4)).rowIs w.heap.size 4 n (fun _ => .bool false) := World.rowIs_made w (.bool false) n 4

set_option maxRecDepth 100000 in
set_option maxHeartbeats 2000000 in
theorem once_walk (a0 : Nat) (a : Option Addr) (len cap : Nat) (z : Nat → ActV) (w : World) (h0 : a0 < 256) (hm : len ≤ 9223372036854775807) (hz : ActsAt w a len z) :
    Calls Try.prog 4 #[.int .u8 a0, .slice a len cap] w fun e w' => e = .returned (.bool true) ∧ Below w.heap.size w w' := by
  by_cases hlen : 150 < len
  · go_enter Try.func4, Try.ntmps4
    go_wp2_with (go_at_call 7; refine (slotted_any _).mono ?_; rintro e w1 ⟨rfl, hu⟩)
    go_ret
    exact ⟨rfl, hu.below (Nat.le_refl _) (fun _ h => h.elim)⟩
  · obtain ⟨i0, hi, hz0, hz1, hz2⟩ := info_parts Try.info31
    obtain ⟨i4, hi4, hy0, hy1, hy2⟩ := info_parts Try.info4
    obtain ⟨n, hn⟩ : ∃ n, n = a0 + 1 := ⟨_, rfl⟩
    have hn1 : 1 ≤ n := by omega
    have hn2 : n ≤ 256 := by omega
    have hx : (1 : Int) + a0 = n := by omega
    have Hn := Lib.hid hn
    have hmk := run_make_row' (P := Try.prog) 39 4 (.bool false) 1 Try.underlying39 Try.info4 rfl .i64 .i64 n (by omega) (by omega)
    clear hn
    go_enter Try.func4, Try.ntmps4
    go_wp2_with (go_at_call 8; refine (New_all _ n hn1 hn2 _ (by first | rfl | omega)).mono ?_; rintro e w1 ⟨rfl, hB, hu⟩)
    have Hx := Lib.hid hx
    clear hx hmk
    have hlt1 := hB.lt
    have hO : OnceAt w (w1.alloc (.cells (madeCells #[.bool false] n) 4)) w.heap.size w1.heap.size n (.slice none 0 0) (.slice none 0 0) (fresh n) [] [] (fun _ => false) :=
      ⟨hB.alloc _, World.ownsRow_nil _ _ _ _, World.ownsRow_nil _ _ _ _, gone0 w1 n, (hu.below (Nat.le_refl _) (fun _ h => h.elim)).alloc (by omega) _, hlt1, Nat.le_refl _⟩
    generalize w1.alloc (.cells (madeCells #[.bool false] n) 4) = W1 at hO ⊢
    generalize w1.heap.size = p at hO ⊢
    have hI := Inv.start n hn2
    clear hB hu hlt1
    go_loopw [8, 9, 11] (fun vh vo i wr => ∃ (k : Nat) (st : St) (H : List (Nat × Nat)) (O : List Bool) (G : Nat → Bool), k ≤ len ∧ i = .int .i64 k ∧ OnceAt w wr w.heap.size p n vh vo st H O G ∧ Inv n st H O G k)
      (fun _ _ i _ => len - (intOf i).toNat)
    case atStart => exact ⟨0, _, _, _, _, by omega, rfl, hO, hI⟩
    case round =>
      clear hO hI
      obtain ⟨k, st, H, O, G, hk, rfl, hOr, hI⟩ := hrel
      by_cases hlt : k < len
      · obtain ⟨hzk, bo, off, ha, hbo, hA⟩ := hz k hlt
        have hAr := hA.below hOr.bel hbo
        obtain ⟨g1, g2, g3, g4, g5⟩ := hAr
        subst ha
        obtain ⟨ah, ch, hvh, hHV⟩ := hOr.hadV
        subst hvh
        obtain ⟨r, hr⟩ : ∃ r : Nat, (((z k).kind : Nat) : Int) % 8 = r := ⟨(z k).kind % 8, by simp⟩
        have hr8 : r < 8 := by omega
        have hkn := hzk.2.1
        have HV := Lib.hid hHV
        clear hHV
        have hO1 := hOr.alloc (.cells #[.int .u8 (z k).kind, .int .u8 (z k).at_, .int .i64 (z k).slot, .int .u32 (z k).gen, .int .i64 (z k).raw] 41)
        have x0 := new_1 wr #[.int .u8 (z k).kind, .int .u8 (z k).at_, .int .i64 (z k).slot, .int .u32 (z k).gen, .int .i64 (z k).raw] 41 0 _ rfl
        have x1 := new_1 wr #[.int .u8 (z k).kind, .int .u8 (z k).at_, .int .i64 (z k).slot, .int .u32 (z k).gen, .int .i64 (z k).raw] 41 1 _ rfl
        simp only [List.getElem_toArray, List.getElem_cons_zero, List.getElem_cons_succ] at x0 x1
        go_upto_if 60 with (fail)
        generalize wr.alloc (.cells #[.int .u8 (z k).kind, .int .u8 (z k).at_, .int .i64 (z k).slot, .int .u32 (z k).gen, .int .i64 (z k).raw] 41) = W1 at hO1 x0 x1 ⊢
        generalize wr.heap.size = xb at x0 x1 ⊢
        go_cut [13] (fun v wc => ∃ q : Int, v = .int .i64 q ∧ ((H.length = 0 ∧ q = -1) ∨ (0 < H.length ∧ q = (z k).at_ % H.length)) ∧ wc = W1)
        case first =>
          by_cases hH : H.length = 0
          · go_wp2
            go_meet
            case rel => exact ⟨-1, rfl, .inl ⟨hH, rfl⟩, rfl⟩
          · have hH' : 0 < H.length := by omega
            go_wp2
            go_meet
            case rel => exact ⟨_, rfl, .inr ⟨hH', rfl⟩, rfl⟩
        case rest =>
          obtain ⟨q, rfl, hq, rfl⟩ := hcut
          have Hq := Lib.hid hq
          clear hq
          clear g1 g2 g3 g4 g5 hA hOr HV
          go_upto_block 2 with (fail)
          rw [hr]
          refine sw_all r hO1 hI hn1 hn2 (by omega) x1 hkn Hq.out hr8 ?_
          clear hO1 hI Hq x0 x1 hr hzk hkn
          intro d4 d14 d15 d16 d17 d18 d19 d20 d21 d22 d70 d71 d72 d73 d74 d75 d76 d77 d78 d79 d80 d81 d82 d83 d84 d85 d86 d87 d88 d89 d90 d91 d92 d93 d94 d95 d96 d97 d98 d99 d100 d101 d102 d103 d104 d105 d106 d107 d108 d109 d110 d111 d112 d113 d114 d115 d116 d117 d118 d119 d120 d121 d122 d123 d124 d125 d126 d127 d128 d129 d130 d131 d132 d133 d134 d135 d136 d137 d138 d139 d140 d141 d142 d143 d144 d145 d146 d147 d148 d149 d150 d151 d152 d153 d154 d155 d156 d157 d158 d159 d160 d161 d162 d163 d164 d165 d166 d167 d168 d169 d170 d171 d172 d173 d174 d175 d176 d177 d178 d179 d180 d181 d182 d183 d184 d185 d186 d187 d188 d189 d190 d191 d192 d193 d194 d195 d196 d197 d198 d199 d200 vh' vo' w' st' H' O' G' hO1 hI
          obtain ⟨ah', ch', hv1, hH1⟩ := hO1.hadV
          obtain ⟨ao', co', hv2, hH2⟩ := hO1.overV
          subst hv1
          subst hv2
          clear hH1 hH2
          have hsm := Lib.hid hI.same
          have hmany := hI.many
          go_wp2_with fail
          go_loopw [23, 24] (fun lv i wi => ∃ j : Nat, j ≤ H'.length ∧ i = .int .i64 j ∧ lv = .int .i64 ((O'.take j).countP (fun o => !o) : Nat) ∧ OnceAt w wi w.heap.size p n (.slice ah' H'.length ch') (.slice ao' O'.length co') st' H' O' G')
            (fun _ i _ => H'.length - (intOf i).toNat)
          case atStart => exact ⟨0, by omega, rfl, by simp, hO1⟩
          case round =>
            clear hO1
            obtain ⟨j, hj, rfl, rfl, hO1⟩ := hrel
            by_cases hjl : j < H'.length
            · obtain ⟨a', c', hv, hHV⟩ := hO1.hadV
              obtain ⟨g, hag, hpg, hcl⟩ := hHV (by omega)
              clear hcl hHV
              simp only [Value.slice.injEq] at hv
              obtain ⟨rfl, _, rfl⟩ := hv
              subst hag
              obtain ⟨a', c', hv, hHV⟩ := hO1.overV
              have hjO : j < O'.length := by rw [← hsm.out]; exact hjl
              obtain ⟨go, hag, hpgo, hcl, hcl2⟩ := hHV (by omega)
              clear hcl hcl2 hHV
              simp only [Value.slice.injEq] at hv
              obtain ⟨rfl, _, rfl⟩ := hv
              subst hag
              obtain ⟨y1, y2⟩ := hO1.hadAt j hjl
              have y3 := hO1.overAt j hjO
              have hlv := hI.live j hjl
              have hsl := hI.slots j hjl
              have hgen : (H'.getD j (0, 0)).2 ≤ k + 2 := by have a1 := hI.old j hjl; have a2 := hI.gens (H'.getD j (0, 0)).1; omega
              have hct : (O'.take (j + 1)).countP (fun o => !o) = (O'.take j).countP (fun o => !o) + (if O'.getD j true then 0 else 1) := by
                rw [List.take_succ_eq_append_getElem hjO, List.countP_append]
                have : O'.getD j true = O'[j] := by simp [hjO]
                rw [this]
                cases O'[j] <;> simp
              have hcl : (O'.take j).countP (fun o => !o) ≤ j := Nat.le_trans List.countP_le_length (by simp; omega)
              generalize hS : (H'.getD j (0, 0)).1 = s at y1 hsl hlv
              generalize hT : (H'.getD j (0, 0)).2 = t at y2 hgen hlv
              generalize hC : (O'.take j).countP (fun o => !o) = cc at hct hcl ⊢
              have HC := Lib.hid hct
              clear hS hT hC hct
              cases hOj : O'.getD j true
              · rw [hOj] at hlv y3
                have HOj := Lib.hid hOj
                have HLV := Lib.hid hlv
                clear hOj hlv
                go_wp2_with fail
                go_region_held3 (fun w' => (w'.cell? ⟨g, j * 2, none⟩ = some (.int .i64 (s : Nat)) ∧ w'.cell? ⟨g, j * 2 + 1, none⟩ = some (.int .u32 (t : Nat))) ∧ w'.cell? ⟨go, j, none⟩ = some (.bool false))
                  (first | exact ⟨⟨y1, y2⟩, y3⟩ | exact ⟨⟨hu2.keep y1 id, hu2.keep y2 id⟩, hu2.keep y3 id⟩)
                  (first | (go_at_call 10; refine (OLive hO1.drew s t true (by omega) (by omega) HLV.out).mono ?_; rintro e w2 ⟨rfl, hu2⟩))
                have y4 := hu2.keep y3 id
                have hO2 := hO1.drew.upto hu2
                go_wp2
                go_roundw
                case rel => exact ⟨j + 1, by omega, by go_num, by rw [HC.out, HOj.out]; go_num, hO2⟩
                case measure => simp [intOf]; omega
              · rw [hOj] at hlv y3
                have HOj := Lib.hid hOj
                have HLV := Lib.hid hlv
                clear hOj hlv
                go_wp2_with fail
                go_region_held3 (fun w' => (w'.cell? ⟨g, j * 2, none⟩ = some (.int .i64 (s : Nat)) ∧ w'.cell? ⟨g, j * 2 + 1, none⟩ = some (.int .u32 (t : Nat))) ∧ w'.cell? ⟨go, j, none⟩ = some (.bool true))
                  (first | exact ⟨⟨y1, y2⟩, y3⟩ | exact ⟨⟨hu2.keep y1 id, hu2.keep y2 id⟩, hu2.keep y3 id⟩)
                  (first | (go_at_call 10; refine (OLive hO1.drew s t false (by omega) (by omega) HLV.out).mono ?_; rintro e w2 ⟨rfl, hu2⟩))
                have y4 := hu2.keep y3 id
                have hO2 := hO1.drew.upto hu2
                go_wp2
                go_roundw
                case rel => exact ⟨j + 1, by omega, by go_num, by rw [HC.out, HOj.out]; rfl, hO2⟩
                case measure => simp [intOf]; omega
            · obtain rfl : H'.length = j := by omega
              have hcnt : (O'.take H'.length).countP (fun o => !o) = cnt st' 1 := by
                rw [List.take_of_length_le (by rw [hsm.out]; exact Nat.le_refl _)]; exact hI.count
              rw [hcnt]
              have hall := hI.all
              have a1 : (cnt st' 0 : Int) + (cnt st' 1 : Int) + (cnt st' 2 : Int) ≤ n := by omega
              have a2 : (n : Int) ≤ (cnt st' 0 : Int) + (cnt st' 1 : Int) + (cnt st' 2 : Int) := by omega
              clear hcnt hall
              go_wp2_with (first | (go_at_call 12; refine (OCount hO1).mono ?_; rintro e w2 ⟨rfl, hO2⟩))
              go_roundw
              case rel => exact ⟨k + 1, _, _, _, _, by omega, by go_num, hO2, hI⟩
              case measure => simp [intOf]; omega
      · obtain rfl : len = k := by omega
        have hbl := hOr.bel
        go_wp2_with (go_at_call 7; refine (slotted_any _).mono ?_; rintro e w5 ⟨rfl, hu5⟩)
        go_ret
        exact ⟨rfl, hbl.trans (hu5.below hbl.size (fun _ h => h.elim))⟩
end Go.Proofs.Ythfmngpocfofnaa
