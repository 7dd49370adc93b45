/- EpochsGrace's switch: Leave. -/
import Derived.Test.YtmmhjibgmpdjoaaGraceDefs
namespace Go.Proofs.Ytmmhjibgmpdjoaa
open Go Go.RowKit Go.Deep Md
variable {c0 c1 c2 c3 c4 c7 c10 c13 c14 c15 c16 c17 c18 c19 c20 c21 c22 c23 c24 c25 c26 c27 c28 c29 c30 c31 c32 c33 c34 c35 c36 c37 c38 c39 c40 c41 c42 c43 c44 c45 c46 c47 c48 c49 c50 c51 c52 c53 c54 c55 c56 c57 c58 c59 c60 c61 c62 c63 c64 c65 c66 c67 c68 c69 c70 c71 c72 c73 c75 c76 c77 c78 c79 c80 c81 c82 c83 c84 c85 c86 c87 c88 c89 c90 c91 c92 c93 c94 c95 c96 c97 c98 c99 c100 c101 c102 c103 c104 c105 c106 c107 c108 c109 c110 c111 c112 c113 c114 c115 c116 c117 c118 c119 c120 c121 c122 c123 c124 c125 c126 c127 c128 c129 c130 c131 c132 c133 c134 c135 c136 c137 c138 c139 c140 c141 c142 c143 c144 c145 c146 c147 c148 c149 c150 c151 c152 c153 c154 c155 c156 c157 c158 c159 c160 c161 c162 c163 c164 c165 c166 c167 c168 c169 c170 c171 c172 c173 c174 c175 c176 c177 c178 c179 c180 c181 c182 c183 c184 c185 c186 c187 c188 c189 c190 c191 c192 c193 c194 c195 c196 c197 c198 c199 c200 c201 c202 c203 c204 c205 c206 c207 c208 c209 c210 c211 c212 c213 c214 c215 c216 c217 c218 c219 c220 c221 c222 c223 c224 c225 c226 c227 c228 c229 c230 c231 c232 c233 c234 c235 : Value}
set_option maxRecDepth 100000 in
set_option maxHeartbeats 4000000 in
theorem gs_leave {n k wi sl r x g sb wb : Nat} {vt : Value} {E : Ep} {S : Nat → Nat → Bool} {W : Nat → Bool} {w W3 : World} {Nx : Act → World → Prop} (hn1 : 1 ≤ n) (hn2 : n ≤ 8) (hP : GP w W3 x g vt E sb wb S W) (hI : GI n k E S W) (hk : k < 200) (hs1 : sl < 9) (hwn : wi < n) (hr1 : 2 ≤ r) (hr2 : r ≤ 2)
    (hK : ∀ (d4 d13 d14 d15 d16 d17 d18 d19 d20 d75 d76 d77 d78 d79 d80 d81 d82 d83 d84 d85 d86 d87 d88 d89 d90 d91 d92 d93 d94 d95 d96 d97 d98 d99 d100 d101 d102 d103 d104 d105 d106 d107 d108 d109 d110 d111 d112 d113 d114 d115 d116 d117 d118 d119 d120 d121 d122 d123 d124 d125 d126 d127 d128 d129 d130 d131 d132 d133 d134 d135 d136 d137 d138 d139 d140 d141 d142 d143 d144 d145 d146 d147 d148 d149 d150 d151 d152 d153 d154 d155 d156 d157 d158 d159 d160 d161 d162 d163 d164 d165 d166 d167 d168 d169 d170 d171 d172 d173 d174 d175 d176 d177 d178 d179 d180 d181 d182 d183 d184 d185 d186 d187 d188 d189 d190 d191 d192 d193 d194 d195 d196 d197 d198 d199 d200 d201 d202 d203 d204 d205 d206 d207 d208 d209 d210 d211 d212 d213 d214 d215 d216 d217 d218 d219 d220 d221 d222 d223 d224 d225 d226 d227 d228 d229 d230 d231 d232 d233 d234 : Value) (vt' : Value) (w' : World) (E' : Ep) (S' : Nat → Nat → Bool) (W' : Nat → Bool), GP w w' x g vt' E' sb wb S' W' → GI n (k + 1) E' S' W' → Nx ⟨#[c0, c1, c2, c3, d4, .int .i64 (n : Nat), .pointer (some ⟨x, 0, none⟩), c7, .pointer (some ⟨sb, 0, none⟩), .pointer (some ⟨wb, 0, none⟩), c10, .int .i64 (wi : Nat), .int .i64 (sl : Nat), d13, d14, d15, d16, d17, d18, d19, d20, c21, c22, c23, c24, c25, c26, c27, c28, c29, c30, c31, c32, c33, c34, c35, c36, c37, c38, c39, c40, c41, c42, c43, c44, c45, c46, c47, c48, c49, c50, c51, c52, c53, c54, c55, c56, c57, c58, c59, c60, c61, c62, c63, c64, c65, c66, c67, c68, c69, c70, c71, c72, c73, .int .u8 (r : Nat), d75, d76, d77, d78, d79, d80, d81, d82, d83, d84, d85, d86, d87, d88, d89, d90, d91, d92, d93, d94, d95, d96, d97, d98, d99, d100, d101, d102, d103, d104, d105, d106, d107, d108, d109, d110, d111, d112, d113, d114, d115, d116, d117, d118, d119, d120, d121, d122, d123, d124, d125, d126, d127, d128, d129, d130, d131, d132, d133, d134, d135, d136, d137, d138, d139, d140, d141, d142, d143, d144, d145, d146, d147, d148, d149, d150, d151, d152, d153, d154, d155, d156, d157, d158, d159, d160, d161, d162, d163, d164, d165, d166, d167, d168, d169, d170, d171, d172, d173, d174, d175, d176, d177, d178, d179, d180, d181, d182, d183, d184, d185, d186, d187, d188, d189, d190, d191, d192, d193, d194, d195, d196, d197, d198, d199, d200, d201, d202, d203, d204, d205, d206, d207, d208, d209, d210, d211, d212, d213, d214, d215, d216, d217, d218, d219, d220, d221, d222, d223, d224, d225, d226, d227, d228, d229, d230, d231, d232, d233, d234, c235], []⟩ w') : Code.wp Try.prog graceSwitch (onlyN Nx) ⟨#[c0, c1, c2, c3, c4, .int .i64 (n : Nat), .pointer (some ⟨x, 0, none⟩), c7, .pointer (some ⟨sb, 0, none⟩), .pointer (some ⟨wb, 0, none⟩), c10, .int .i64 (wi : Nat), .int .i64 (sl : Nat), c13, c14, c15, c16, c17, c18, c19, c20, c21, c22, c23, c24, c25, c26, c27, c28, c29, c30, c31, c32, c33, c34, c35, c36, c37, c38, c39, c40, c41, c42, c43, c44, c45, c46, c47, c48, c49, c50, c51, c52, c53, c54, c55, c56, c57, c58, c59, c60, c61, c62, c63, c64, c65, c66, c67, c68, c69, c70, c71, c72, c73, .int .u8 (r : Nat), c75, c76, c77, c78, c79, c80, c81, c82, c83, c84, c85, c86, c87, c88, c89, c90, c91, c92, c93, c94, c95, c96, c97, c98, c99, c100, c101, c102, c103, c104, c105, c106, c107, c108, c109, c110, c111, c112, c113, c114, c115, c116, c117, c118, c119, c120, c121, c122, c123, c124, c125, c126, c127, c128, c129, c130, c131, c132, c133, c134, c135, c136, c137, c138, c139, c140, c141, c142, c143, c144, c145, c146, c147, c148, c149, c150, c151, c152, c153, c154, c155, c156, c157, c158, c159, c160, c161, c162, c163, c164, c165, c166, c167, c168, c169, c170, c171, c172, c173, c174, c175, c176, c177, c178, c179, c180, c181, c182, c183, c184, c185, c186, c187, c188, c189, c190, c191, c192, c193, c194, c195, c196, c197, c198, c199, c200, c201, c202, c203, c204, c205, c206, c207, c208, c209, c210, c211, c212, c213, c214, c215, c216, c217, c218, c219, c220, c221, c222, c223, c224, c225, c226, c227, c228, c229, c230, c231, c232, c233, c234, c235], []⟩ W3 := by
  have hnow := hI.ei.now
  have hmany := hI.ei.many
  have e0 : ((r : Int) == 0) = false := beq_eq_false_iff_ne.2 (by omega)
  have e1 : ((r : Int) == 1) = false := beq_eq_false_iff_ne.2 (by omega)
  have e2 : ((r : Int) == 2) = true := beq_iff_eq.2 (by omega)
  have e3 : ((r : Int) == 3) = false := beq_eq_false_iff_ne.2 (by omega)
  have e4 : ((r : Int) == 4) = false := beq_eq_false_iff_ne.2 (by omega)
  have e7 : ((r : Int) == 7) = false := beq_eq_false_iff_ne.2 (by omega)
  clear hr1 hr2
  conv => arg 2; whnf
  have hwl : wi < E.ws.length := by rw [hI.ei.len]; exact hwn
  obtain ⟨hA1, hA2⟩ := ann_of (E := E) (v := -1) hwl
  have hS1 : seenI { E with ws := E.ws.set wi (-1) } wi = -1 := by
    rw [seen_of (by simpa using hwl)]
    show wAt (E.ws.set wi (-1)) wi = _
    rw [wAt_set _ _ _ _ hwl, if_pos rfl]
  have hI1 := hI.leave hwn
  rw [hA1] at hI1
  have HI1 := Lib.hid hI1
  have HA1 := Lib.hid hA1
  have HA2 := Lib.hid hA2
  have HIN := Lib.hid (show (seenI { E with ws := E.ws.set wi (-1) } wi != -1) = false by rw [hS1]; rfl)
  clear hA1 hA2 hS1 hI1
  go_wp2_with (first
    | (go_at_call 13; refine (DLeave hP.wd (wi : Nat) HA1.out HA2.out).mono ?_; intro e w2 ht; obtain ⟨rfl, v2, hP1⟩ := hP.of ht; clear ht)
    | (go_at_call 24; refine (DIn hP1.wd (wi : Nat) HIN.out).mono ?_; rintro e w' ⟨rfl, rfl⟩))
  go_loopw [15] (fun v wi' => ∃ (j : Nat) (vt' : Value), j ≤ 9 ∧ v = .int .i64 j ∧ GP w wi' x g vt' { E with ws := E.ws.set wi (-1) } sb wb (fun c d => if c < j ∧ d = wi then false else S c d) W) (fun v _ => 9 - (intOf v).toNat)
  case atStart => exact ⟨0, _, by omega, rfl, hP1.congr (fun c d _ _ => by rw [if_neg (by omega)]) (fun _ _ => rfl)⟩
  case round =>
    clear hP1
    obtain ⟨j, vt', hj, rfl, hP1⟩ := hrel
    by_cases hjl : j < 9
    · have hc := hP1.sc hjl (show wi < 8 by omega)
      have hf := hP1.sr.frozen (j * 8 + wi)
      have y0 : (0 : Int) ≤ (j : Int) := by omega
      have y1 : (j : Int) < 9 := by omega
      have y2 : (0 : Int) ≤ (wi : Int) := by omega
      have y3 : (wi : Int) < 8 := by omega
      go_wp2
      go_roundw
      have hP2 := hP1.setS hjl (show wi < 8 by omega) false
      have hP3 := hP2.congr (S' := fun c d => if c < j + 1 ∧ d = wi then false else S c d) (fun c d _ _ => by
        by_cases ec : c = j ∧ d = wi
        · obtain ⟨rfl, rfl⟩ := ec; simp
        · rw [if_neg ec]; by_cases ed : d = wi
          · by_cases e5 : c < j
            · rw [if_pos ⟨e5, ed⟩, if_pos ⟨by omega, ed⟩]
            · rw [if_neg (fun hc => e5 hc.1), if_neg (fun hc => ec ⟨by omega, ed⟩)]
          · rw [if_neg (fun hc => ed hc.2), if_neg (fun hc => ed hc.2)]) (fun _ _ => rfl)
      case rel => first | exact ⟨j + 1, _, by omega, by go_num, hP3⟩ | ((repeat apply Exists.intro); refine ⟨?_, rfl⟩; exact ⟨j + 1, _, by omega, by go_num, hP3⟩)
      case measure => simp [intOf]; omega
    · obtain rfl : j = 9 := by omega
      have HF : GI n (k + 1) { E with ws := E.ws.set wi (-1) } (fun c d => if c < 9 ∧ d = wi then false else S c d) W := HI1.out.congr (fun c d hc hd => by
        by_cases ed : d = wi
        · rw [if_pos ed, if_pos ⟨hc, ed⟩]
        · rw [if_neg ed, if_neg (fun h => ed h.2)]) (fun _ _ => rfl) (by omega)
      have HF := Lib.hid HF
      go_wp2
      exact hK _ _ _ _ _ _ _ _ _ _ _ _ _ _ _ _ _ _ _ _ _ _ _ _ _ _ _ _ _ _ _ _ _ _ _ _ _ _ _ _ _ _ _ _ _ _ _ _ _ _ _ _ _ _ _ _ _ _ _ _ _ _ _ _ _ _ _ _ _ _ _ _ _ _ _ _ _ _ _ _ _ _ _ _ _ _ _ _ _ _ _ _ _ _ _ _ _ _ _ _ _ _ _ _ _ _ _ _ _ _ _ _ _ _ _ _ _ _ _ _ _ _ _ _ _ _ _ _ _ _ _ _ _ _ _ _ _ _ _ _ _ _ _ _ _ _ _ _ _ _ _ _ _ _ _ _ _ _ _ _ _ _ _ _ _ _ _ _ _ _ _ _ _ _ hP1 HF.out
end Go.Proofs.Ytmmhjibgmpdjoaa
