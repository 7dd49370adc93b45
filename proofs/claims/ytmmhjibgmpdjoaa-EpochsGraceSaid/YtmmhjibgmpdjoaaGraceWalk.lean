/- EpochsGrace, walked. -/
import Derived.Test.YtmmhjibgmpdjoaaGsEnter0
import Derived.Test.YtmmhjibgmpdjoaaGsEnter1
import Derived.Test.YtmmhjibgmpdjoaaGsLeave
import Derived.Test.YtmmhjibgmpdjoaaGsAdv3
import Derived.Test.YtmmhjibgmpdjoaaGsAdv4
import Derived.Test.YtmmhjibgmpdjoaaGsRipe
import Derived.Test.YtmmhjibgmpdjoaaGsDef5
import Derived.Test.YtmmhjibgmpdjoaaGsDef6
namespace Go.Proofs.Ytmmhjibgmpdjoaa
open Go Go.RowKit Go.Deep Md

theorem of_onlyN {P : Program} {c : Code} {Q : Exit → Act → World → Prop} {a : Act} {w : World} (h : Code.wp P c (onlyN (Q .normal)) a w) : Code.wp P c Q a w :=
  Code.wp_mono (fun e a w h => by cases e <;> first | exact h | exact h.elim) h
set_option maxRecDepth 100000 in
set_option maxHeartbeats 100000000 in
theorem grace_walk (a0 : Nat) (a : Option Addr) (len cap : Nat) (z : Nat → ActV) (w : World) (h0 : a0 < 256) (hm : len ≤ 9223372036854775807) (hz : ActsAt w a len z) :
    Calls Try.prog 5 #[.int .u8 a0, .slice a len cap] w (Told (.bool true) w) := by
  obtain ⟨n, hn⟩ : ∃ n, n = 1 + a0 % 8 := ⟨_, rfl⟩
  have hn1 : 1 ≤ n := by omega
  have hn2 : n ≤ 8 := by omega
  have hx : (1 : Int) + (a0 : Int) % 8 = n := by omega
  clear hn
  by_cases hlen : 200 < len
  · go_enter Try.func5, Try.ntmps5
    go_wp2_with (first
      | (go_at_call 8; refine (DNew n hn1 (by omega)).mono ?_; rintro e w1 ⟨x, g, rfl, hD⟩)
      | (go_at_call 7; refine (waited_any _).mono ?_; rintro e w2 ⟨rfl, hu⟩))
    go_ret
    exact ⟨rfl, hD.bel.trans hu⟩
  · obtain ⟨zs, hzs⟩ : ∃ zs : Array Value, zs = Array.replicate 72 (.bool false) := ⟨_, rfl⟩
    have hz47 : ∀ w, (zeroValue 47).run Try.prog w = .ok (.agg zs) w := by subst hzs; exact zero47
    obtain ⟨ys, hys⟩ : ∃ ys : Array Value, ys = Array.replicate 9 (.bool false) := ⟨_, rfl⟩
    have hz48 : ∀ w, (zeroValue 48).run Try.prog w = .ok (.agg ys) w := by subst hys; exact zero48
    have HZ := Lib.hid hzs
    have HY := Lib.hid hys
    clear hzs hys
    go_enter Try.func5, Try.ntmps5
    go_wp2_with (first
      | (go_at_call 8; refine (DNew n hn1 (by omega)).mono ?_; rintro e w1 ⟨x, g, rfl, hD⟩))
    have hI := GI.start n
    have hxl := hD.at_.lt
    have hzsz : zs.size = 72 := by rw [HZ.out]; simp
    have hysz : ys.size = 9 := by rw [HY.out]; simp
    have hr1 : (w1.alloc (.cells zs 47)).rowIs w1.heap.size 47 72 (seesF fun _ _ => false) := by
      have := World.rowIs_alloc w1 zs 47 (seesF fun _ _ => false) (fun i hi => by rw [HZ.out]; rw [hzsz] at hi; simp [seesF, hi])
      rw [hzsz] at this; exact this
    have hr2 : ((w1.alloc (.cells zs 47)).alloc (.cells ys 48)).rowIs (w1.heap.size + 1) 48 9 (waitsF fun _ => false) := by
      have := World.rowIs_alloc (w1.alloc (.cells zs 47)) ys 48 (waitsF fun _ => false) (fun i hi => by rw [HY.out]; rw [hysz] at hi; simp [waitsF, hi])
      rw [hysz, World.size_alloc] at this; exact this
    have hP : GP w ((w1.alloc (.cells zs 47)).alloc (.cells ys 48)) x g (.slice none 0 0) (fresh n) w1.heap.size (w1.heap.size + 1) (fun _ _ => false) (fun _ => false) :=
      ⟨(hD.alloc _).alloc _, hr1.alloc _, hr2, hxl, by omega⟩
    generalize (w1.alloc (.cells zs 47)).alloc (.cells ys 48) = W2 at hP ⊢
    generalize hsb : w1.heap.size = sb at hP ⊢
    generalize hwb : sb + 1 = wb at hP ⊢
    clear hx hz47 hz48 hzsz hysz hr1 hr2 hD hxl hsb hwb HZ HY
    go_loopw [10] (fun i wr => ∃ (k : Nat) (vt : Value) (E : Ep) (S : Nat → Nat → Bool) (W : Nat → Bool), k ≤ len ∧ i = .int .i64 k ∧ GP w wr x g vt E sb wb S W ∧ GI n k E S W) (fun i _ => len - (intOf i).toNat)
    case atStart => exact ⟨0, _, _, _, _, by omega, rfl, hP, hI⟩
    case round =>
      clear hP hI
      obtain ⟨k, vt, E, S, W, hk, rfl, hP, hI⟩ := hrel
      by_cases hlt : k < len
      · obtain ⟨hzk, bo, off, ha, hbo, hA⟩ := hz k hlt
        have hAr := hA.upto hP.wd.bel
        obtain ⟨g1, g2, g3⟩ := hAr
        subst ha
        obtain ⟨r, hr⟩ : ∃ r : Nat, (((z k).kind : Nat) : Int) % 8 = r := ⟨(z k).kind % 8, by simp⟩
        have hr8 : r < 8 := by omega
        have hkn := hzk.1
        have hs1 : withinN (z k).slot 9 < 9 := withinN_lt _ (by omega)
        have hwn : withinN (z k).who n < n := withinN_lt _ (by omega)
        have hnow := hI.ei.now
        have hmany := hI.ei.many
        have z0 : (0 : Int) ≤ (k : Int) := by omega
        have z1 : (k : Int) < (len : Int) := by omega
        clear hzk hA hz
        generalize hwi : withinN (z k).who n = wi at hwn
        generalize hsl : withinN (z k).slot 9 = sl at hs1
        have W1 := Lib.hid (fun m => quiet_same (n := m) (hwi ▸ within_any (wr.drewN m) (z k).who n hn1 (by omega)))
        have W2 := Lib.hid (fun m => quiet_same (n := m) (hsl ▸ within_9 (wr.drewN m) (z k).slot))
        clear hwi hsl
        go_upto_region 10 with (fail)
        go_quiet ((first | (go_at_call 10; with_reducible exact W1.out _) | (go_at_call 10; with_reducible exact W2.out _)))
        replace hP := hP.upto ((Upto.refl _ _).drewN nq)
        have G1 : (wr.drewN nq).cell? ⟨bo, off + k * 3, none⟩ = some (.int .u8 ((z k).kind : Nat)) := g1
        generalize wr.drewN nq = W3 at hP G1 ⊢
        clear W1 W2 g1 g2 g3
        go_upto_block 2 with (fail)
        rw [hr]
        clear hr G1
        have hk2 : k < 200 := by omega
        have hrr : r = 0 ∨ r = 1 ∨ r = 2 ∨ r = 3 ∨ r = 4 ∨ r = 5 ∨ r = 6 ∨ r = 7 := by omega
        refine of_onlyN ?_
        rcases hrr with hc | hc | hc | hc | hc | hc | hc | hc
        · refine gs_enter0 hn1 hn2 hP hI hk2 hs1 hwn (by omega) (by omega) ?_
          intro d4 d13 d14 d15 d16 d17 d18 d19 d20 d75 d76 d77 d78 d79 d80 d81 d82 d83 d84 d85 d86 d87 d88 d89 d90 d91 d92 d93 d94 d95 d96 d97 d98 d99 d100 d101 d102 d103 d104 d105 d106 d107 d108 d109 d110 d111 d112 d113 d114 d115 d116 d117 d118 d119 d120 d121 d122 d123 d124 d125 d126 d127 d128 d129 d130 d131 d132 d133 d134 d135 d136 d137 d138 d139 d140 d141 d142 d143 d144 d145 d146 d147 d148 d149 d150 d151 d152 d153 d154 d155 d156 d157 d158 d159 d160 d161 d162 d163 d164 d165 d166 d167 d168 d169 d170 d171 d172 d173 d174 d175 d176 d177 d178 d179 d180 d181 d182 d183 d184 d185 d186 d187 d188 d189 d190 d191 d192 d193 d194 d195 d196 d197 d198 d199 d200 d201 d202 d203 d204 d205 d206 d207 d208 d209 d210 d211 d212 d213 d214 d215 d216 d217 d218 d219 d220 d221 d222 d223 d224 d225 d226 d227 d228 d229 d230 d231 d232 d233 d234 vt2 w2 E2 S2 W2 hP1 hF
          clear hP hI
          have HF := Lib.hid hF
          clear hF
          go_wp2
          go_roundw
          case rel => first | exact ⟨k + 1, _, _, _, _, by omega, by go_num, hP1, HF.out⟩ | ((repeat apply Exists.intro); refine ⟨?_, rfl⟩; exact ⟨k + 1, _, _, _, _, by omega, by go_num, hP1, HF.out⟩)
          case measure => simp [intOf]; omega
        · refine gs_enter1 hn1 hn2 hP hI hk2 hs1 hwn (by omega) (by omega) ?_
          intro d4 d13 d14 d15 d16 d17 d18 d19 d20 d75 d76 d77 d78 d79 d80 d81 d82 d83 d84 d85 d86 d87 d88 d89 d90 d91 d92 d93 d94 d95 d96 d97 d98 d99 d100 d101 d102 d103 d104 d105 d106 d107 d108 d109 d110 d111 d112 d113 d114 d115 d116 d117 d118 d119 d120 d121 d122 d123 d124 d125 d126 d127 d128 d129 d130 d131 d132 d133 d134 d135 d136 d137 d138 d139 d140 d141 d142 d143 d144 d145 d146 d147 d148 d149 d150 d151 d152 d153 d154 d155 d156 d157 d158 d159 d160 d161 d162 d163 d164 d165 d166 d167 d168 d169 d170 d171 d172 d173 d174 d175 d176 d177 d178 d179 d180 d181 d182 d183 d184 d185 d186 d187 d188 d189 d190 d191 d192 d193 d194 d195 d196 d197 d198 d199 d200 d201 d202 d203 d204 d205 d206 d207 d208 d209 d210 d211 d212 d213 d214 d215 d216 d217 d218 d219 d220 d221 d222 d223 d224 d225 d226 d227 d228 d229 d230 d231 d232 d233 d234 vt2 w2 E2 S2 W2 hP1 hF
          clear hP hI
          have HF := Lib.hid hF
          clear hF
          go_wp2
          go_roundw
          case rel => first | exact ⟨k + 1, _, _, _, _, by omega, by go_num, hP1, HF.out⟩ | ((repeat apply Exists.intro); refine ⟨?_, rfl⟩; exact ⟨k + 1, _, _, _, _, by omega, by go_num, hP1, HF.out⟩)
          case measure => simp [intOf]; omega
        · refine gs_leave hn1 hn2 hP hI hk2 hs1 hwn (by omega) (by omega) ?_
          intro d4 d13 d14 d15 d16 d17 d18 d19 d20 d75 d76 d77 d78 d79 d80 d81 d82 d83 d84 d85 d86 d87 d88 d89 d90 d91 d92 d93 d94 d95 d96 d97 d98 d99 d100 d101 d102 d103 d104 d105 d106 d107 d108 d109 d110 d111 d112 d113 d114 d115 d116 d117 d118 d119 d120 d121 d122 d123 d124 d125 d126 d127 d128 d129 d130 d131 d132 d133 d134 d135 d136 d137 d138 d139 d140 d141 d142 d143 d144 d145 d146 d147 d148 d149 d150 d151 d152 d153 d154 d155 d156 d157 d158 d159 d160 d161 d162 d163 d164 d165 d166 d167 d168 d169 d170 d171 d172 d173 d174 d175 d176 d177 d178 d179 d180 d181 d182 d183 d184 d185 d186 d187 d188 d189 d190 d191 d192 d193 d194 d195 d196 d197 d198 d199 d200 d201 d202 d203 d204 d205 d206 d207 d208 d209 d210 d211 d212 d213 d214 d215 d216 d217 d218 d219 d220 d221 d222 d223 d224 d225 d226 d227 d228 d229 d230 d231 d232 d233 d234 vt2 w2 E2 S2 W2 hP1 hF
          clear hP hI
          have HF := Lib.hid hF
          clear hF
          go_wp2
          go_roundw
          case rel => first | exact ⟨k + 1, _, _, _, _, by omega, by go_num, hP1, HF.out⟩ | ((repeat apply Exists.intro); refine ⟨?_, rfl⟩; exact ⟨k + 1, _, _, _, _, by omega, by go_num, hP1, HF.out⟩)
          case measure => simp [intOf]; omega
        · refine gs_adv3 hn1 hn2 hP hI hk2 hs1 hwn (by omega) (by omega) ?_
          intro d4 d13 d14 d15 d16 d17 d18 d19 d20 d75 d76 d77 d78 d79 d80 d81 d82 d83 d84 d85 d86 d87 d88 d89 d90 d91 d92 d93 d94 d95 d96 d97 d98 d99 d100 d101 d102 d103 d104 d105 d106 d107 d108 d109 d110 d111 d112 d113 d114 d115 d116 d117 d118 d119 d120 d121 d122 d123 d124 d125 d126 d127 d128 d129 d130 d131 d132 d133 d134 d135 d136 d137 d138 d139 d140 d141 d142 d143 d144 d145 d146 d147 d148 d149 d150 d151 d152 d153 d154 d155 d156 d157 d158 d159 d160 d161 d162 d163 d164 d165 d166 d167 d168 d169 d170 d171 d172 d173 d174 d175 d176 d177 d178 d179 d180 d181 d182 d183 d184 d185 d186 d187 d188 d189 d190 d191 d192 d193 d194 d195 d196 d197 d198 d199 d200 d201 d202 d203 d204 d205 d206 d207 d208 d209 d210 d211 d212 d213 d214 d215 d216 d217 d218 d219 d220 d221 d222 d223 d224 d225 d226 d227 d228 d229 d230 d231 d232 d233 d234 vt2 w2 E2 S2 W2 hP1 hF
          clear hP hI
          have HF := Lib.hid hF
          clear hF
          go_wp2
          go_roundw
          case rel => first | exact ⟨k + 1, _, _, _, _, by omega, by go_num, hP1, HF.out⟩ | ((repeat apply Exists.intro); refine ⟨?_, rfl⟩; exact ⟨k + 1, _, _, _, _, by omega, by go_num, hP1, HF.out⟩)
          case measure => simp [intOf]; omega
        · refine gs_adv4 hn1 hn2 hP hI hk2 hs1 hwn (by omega) (by omega) ?_
          intro d4 d13 d14 d15 d16 d17 d18 d19 d20 d75 d76 d77 d78 d79 d80 d81 d82 d83 d84 d85 d86 d87 d88 d89 d90 d91 d92 d93 d94 d95 d96 d97 d98 d99 d100 d101 d102 d103 d104 d105 d106 d107 d108 d109 d110 d111 d112 d113 d114 d115 d116 d117 d118 d119 d120 d121 d122 d123 d124 d125 d126 d127 d128 d129 d130 d131 d132 d133 d134 d135 d136 d137 d138 d139 d140 d141 d142 d143 d144 d145 d146 d147 d148 d149 d150 d151 d152 d153 d154 d155 d156 d157 d158 d159 d160 d161 d162 d163 d164 d165 d166 d167 d168 d169 d170 d171 d172 d173 d174 d175 d176 d177 d178 d179 d180 d181 d182 d183 d184 d185 d186 d187 d188 d189 d190 d191 d192 d193 d194 d195 d196 d197 d198 d199 d200 d201 d202 d203 d204 d205 d206 d207 d208 d209 d210 d211 d212 d213 d214 d215 d216 d217 d218 d219 d220 d221 d222 d223 d224 d225 d226 d227 d228 d229 d230 d231 d232 d233 d234 vt2 w2 E2 S2 W2 hP1 hF
          clear hP hI
          have HF := Lib.hid hF
          clear hF
          go_wp2
          go_roundw
          case rel => first | exact ⟨k + 1, _, _, _, _, by omega, by go_num, hP1, HF.out⟩ | ((repeat apply Exists.intro); refine ⟨?_, rfl⟩; exact ⟨k + 1, _, _, _, _, by omega, by go_num, hP1, HF.out⟩)
          case measure => simp [intOf]; omega
        · refine gs_def5 hn1 hn2 hP hI hk2 hs1 hwn (by omega) (by omega) ?_
          intro d4 d13 d14 d15 d16 d17 d18 d19 d20 d75 d76 d77 d78 d79 d80 d81 d82 d83 d84 d85 d86 d87 d88 d89 d90 d91 d92 d93 d94 d95 d96 d97 d98 d99 d100 d101 d102 d103 d104 d105 d106 d107 d108 d109 d110 d111 d112 d113 d114 d115 d116 d117 d118 d119 d120 d121 d122 d123 d124 d125 d126 d127 d128 d129 d130 d131 d132 d133 d134 d135 d136 d137 d138 d139 d140 d141 d142 d143 d144 d145 d146 d147 d148 d149 d150 d151 d152 d153 d154 d155 d156 d157 d158 d159 d160 d161 d162 d163 d164 d165 d166 d167 d168 d169 d170 d171 d172 d173 d174 d175 d176 d177 d178 d179 d180 d181 d182 d183 d184 d185 d186 d187 d188 d189 d190 d191 d192 d193 d194 d195 d196 d197 d198 d199 d200 d201 d202 d203 d204 d205 d206 d207 d208 d209 d210 d211 d212 d213 d214 d215 d216 d217 d218 d219 d220 d221 d222 d223 d224 d225 d226 d227 d228 d229 d230 d231 d232 d233 d234 vt2 w2 E2 S2 W2 hP1 hF
          clear hP hI
          have HF := Lib.hid hF
          clear hF
          go_wp2
          go_roundw
          case rel => first | exact ⟨k + 1, _, _, _, _, by omega, by go_num, hP1, HF.out⟩ | ((repeat apply Exists.intro); refine ⟨?_, rfl⟩; exact ⟨k + 1, _, _, _, _, by omega, by go_num, hP1, HF.out⟩)
          case measure => simp [intOf]; omega
        · refine gs_def6 hn1 hn2 hP hI hk2 hs1 hwn (by omega) (by omega) ?_
          intro d4 d13 d14 d15 d16 d17 d18 d19 d20 d75 d76 d77 d78 d79 d80 d81 d82 d83 d84 d85 d86 d87 d88 d89 d90 d91 d92 d93 d94 d95 d96 d97 d98 d99 d100 d101 d102 d103 d104 d105 d106 d107 d108 d109 d110 d111 d112 d113 d114 d115 d116 d117 d118 d119 d120 d121 d122 d123 d124 d125 d126 d127 d128 d129 d130 d131 d132 d133 d134 d135 d136 d137 d138 d139 d140 d141 d142 d143 d144 d145 d146 d147 d148 d149 d150 d151 d152 d153 d154 d155 d156 d157 d158 d159 d160 d161 d162 d163 d164 d165 d166 d167 d168 d169 d170 d171 d172 d173 d174 d175 d176 d177 d178 d179 d180 d181 d182 d183 d184 d185 d186 d187 d188 d189 d190 d191 d192 d193 d194 d195 d196 d197 d198 d199 d200 d201 d202 d203 d204 d205 d206 d207 d208 d209 d210 d211 d212 d213 d214 d215 d216 d217 d218 d219 d220 d221 d222 d223 d224 d225 d226 d227 d228 d229 d230 d231 d232 d233 d234 vt2 w2 E2 S2 W2 hP1 hF
          clear hP hI
          have HF := Lib.hid hF
          clear hF
          go_wp2
          go_roundw
          case rel => first | exact ⟨k + 1, _, _, _, _, by omega, by go_num, hP1, HF.out⟩ | ((repeat apply Exists.intro); refine ⟨?_, rfl⟩; exact ⟨k + 1, _, _, _, _, by omega, by go_num, hP1, HF.out⟩)
          case measure => simp [intOf]; omega
        · refine gs_ripe hn1 hn2 hP hI hk2 hs1 hwn (by omega) (by omega) ?_
          intro d4 d13 d14 d15 d16 d17 d18 d19 d20 d75 d76 d77 d78 d79 d80 d81 d82 d83 d84 d85 d86 d87 d88 d89 d90 d91 d92 d93 d94 d95 d96 d97 d98 d99 d100 d101 d102 d103 d104 d105 d106 d107 d108 d109 d110 d111 d112 d113 d114 d115 d116 d117 d118 d119 d120 d121 d122 d123 d124 d125 d126 d127 d128 d129 d130 d131 d132 d133 d134 d135 d136 d137 d138 d139 d140 d141 d142 d143 d144 d145 d146 d147 d148 d149 d150 d151 d152 d153 d154 d155 d156 d157 d158 d159 d160 d161 d162 d163 d164 d165 d166 d167 d168 d169 d170 d171 d172 d173 d174 d175 d176 d177 d178 d179 d180 d181 d182 d183 d184 d185 d186 d187 d188 d189 d190 d191 d192 d193 d194 d195 d196 d197 d198 d199 d200 d201 d202 d203 d204 d205 d206 d207 d208 d209 d210 d211 d212 d213 d214 d215 d216 d217 d218 d219 d220 d221 d222 d223 d224 d225 d226 d227 d228 d229 d230 d231 d232 d233 d234 vt2 w2 E2 S2 W2 hP1 hF
          clear hP hI
          have HF := Lib.hid hF
          clear hF
          go_wp2
          go_roundw
          case rel => first | exact ⟨k + 1, _, _, _, _, by omega, by go_num, hP1, HF.out⟩ | ((repeat apply Exists.intro); refine ⟨?_, rfl⟩; exact ⟨k + 1, _, _, _, _, by omega, by go_num, hP1, HF.out⟩)
          case measure => simp [intOf]; omega
      · have hbl := hP.wd.bel
        clear hI
        go_wp2_with (go_at_call 7; refine (waited_any _).mono ?_; rintro e w5 ⟨rfl, hu5⟩)
        go_ret
        exact ⟨rfl, hbl.trans hu5⟩
end Go.Proofs.Ytmmhjibgmpdjoaa
