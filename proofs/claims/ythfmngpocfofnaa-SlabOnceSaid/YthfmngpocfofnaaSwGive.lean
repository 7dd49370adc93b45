/- SlabOnce's switch: a handle is given back. -/
import Derived.Test.YthfmngpocfofnaaSwDefs
import Derived.Deep.DeepMust
namespace Go.Proofs.Ythfmngpocfofnaa
open Go Go.RowKit Go.Deep Md
variable {c0 c1 c2 c3 c4 c7 c11 c15 c16 c17 c18 c19 c20 c21 c22 c23 c24 c25 c26 c27 c28 c29 c30 c31 c32 c33 c34 c35 c36 c37 c38 c39 c40 c41 c42 c43 c44 c45 c46 c47 c48 c49 c50 c51 c52 c53 c54 c55 c56 c57 c58 c59 c60 c61 c62 c63 c64 c65 c66 c67 c68 c69 c70 c71 c72 c73 c74 c75 c76 c77 c78 c79 c80 c81 c82 c83 c84 c85 c86 c87 c88 c89 c90 c91 c92 c93 c94 c95 c96 c97 c98 c99 c100 c101 c102 c103 c104 c105 c106 c107 c108 c109 c110 c111 c112 c113 c114 c115 c116 c117 c118 c119 c120 c121 c122 c123 c124 c125 c126 c127 c128 c129 c130 c131 c132 c133 c134 c135 c136 c137 c138 c139 c140 c141 c142 c143 c144 c145 c146 c147 c148 c149 c150 c151 c152 c153 c154 c155 c156 c157 c158 c159 c160 c161 c162 c163 c164 c165 c166 c167 c168 c169 c170 c171 c172 c173 c174 c175 c176 c177 c178 c179 c180 c181 c182 c183 c184 c185 c186 c187 c188 c189 c190 c191 c192 c193 c194 c195 c196 c197 c198 c199 c200 c201 c202 c203 c204 c205 c206 c207 c208 c209 c210 c211 c212 c213 c214 c215 c216 c217 c218 c219 c220 c221 c222 c223 c224 c225 c226 c227 c228 c229 c230 c231 c232 c233 c234 c235 c236 c237 c238 c239 c240 c241 c242 c243 : Value}

set_option maxRecDepth 100000 in
set_option maxHeartbeats 1000000 in
theorem sw_leave2 {w0 wc : World} {b p n xb k : Nat} {ah : Option Addr} {ch : Nat} {vo : Value} {st : St} {H : List (Nat × Nat)} {O : List Bool} {G : Nat → Bool} {q : Int} {K : Act → World → Prop} {Q' : Exit → Act → World → Prop} {x : ActV} (r : Nat)
    (hO1 : OnceAt w0 wc b p n (.slice ah H.length ch) vo st H O G) (hI : Inv n st H O G k) (hn1 : 1 ≤ n) (hn2 : n ≤ 256) (hk : k < 150)
    (x1 : wc.cell? ⟨xb, 1, none⟩ = some (.int .u8 (x.at_ : Nat))) (hx1 : x.at_ < 256) (hq : (H.length = 0 ∧ q = -1) ∨ (0 < H.length ∧ q = x.at_ % H.length)) (hr : (r : Int) = 2)
    (hK : ∀ (d4 d14 d15 d16 d17 d18 d19 d20 d21 d22 d70 d71 d72 d73 d74 d75 d76 d77 d78 d79 d80 d81 d82 d83 d84 d85 d86 d87 d88 d89 d90 d91 d92 d93 d94 d95 d96 d97 d98 d99 d100 d101 d102 d103 d104 d105 d106 d107 d108 d109 d110 d111 d112 d113 d114 d115 d116 d117 d118 d119 d120 d121 d122 d123 d124 d125 d126 d127 d128 d129 d130 d131 d132 d133 d134 d135 d136 d137 d138 d139 d140 d141 d142 d143 d144 d145 d146 d147 d148 d149 d150 d151 d152 d153 d154 d155 d156 d157 d158 d159 d160 d161 d162 d163 d164 d165 d166 d167 d168 d169 d170 d171 d172 d173 d174 d175 d176 d177 d178 d179 d180 d181 d182 d183 d184 d185 d186 d187 d188 d189 d190 d191 d192 d193 d194 d195 d196 d197 d198 d199 d200 : Value) (vh' vo' : Value) (w' : World) (st' : St) (H' : List (Nat × Nat)) (O' : List Bool) (G' : Nat → Bool), OnceAt w0 w' b p n vh' vo' st' H' O' G' → Inv n st' H' O' G' (k + 1) → K ⟨#[c0, c1, c2, c3, d4, .int .i64 n, .pointer (some ⟨b, 0, none⟩), c7, vh', vo', .slice (some ⟨p, 0, none⟩) n n, c11, .pointer (some ⟨xb, 0, none⟩), .int .i64 q, d14, d15, d16, d17, d18, d19, d20, d21, d22, c23, c24, c25, c26, c27, c28, c29, c30, c31, c32, c33, c34, c35, c36, c37, c38, c39, c40, c41, c42, c43, c44, c45, c46, c47, c48, c49, c50, c51, c52, c53, c54, c55, c56, c57, c58, c59, c60, c61, c62, c63, c64, c65, c66, c67, c68, c69, d70, d71, d72, d73, d74, d75, d76, d77, d78, d79, d80, d81, d82, d83, d84, d85, d86, d87, d88, d89, d90, d91, d92, d93, d94, d95, d96, d97, d98, d99, d100, d101, d102, d103, d104, d105, d106, d107, d108, d109, d110, d111, d112, d113, d114, d115, d116, d117, d118, d119, d120, d121, d122, d123, d124, d125, d126, d127, d128, d129, d130, d131, d132, d133, d134, d135, d136, d137, d138, d139, d140, d141, d142, d143, d144, d145, d146, d147, d148, d149, d150, d151, d152, d153, d154, d155, d156, d157, d158, d159, d160, d161, d162, d163, d164, d165, d166, d167, d168, d169, d170, d171, d172, d173, d174, d175, d176, d177, d178, d179, d180, d181, d182, d183, d184, d185, d186, d187, d188, d189, d190, d191, d192, d193, d194, d195, d196, d197, d198, d199, d200, c201, c202, c203, c204, c205, c206, c207, c208, c209, c210, c211, c212, c213, c214, c215, c216, c217, c218, c219, c220, c221, c222, c223, c224, c225, c226, c227, c228, c229, c230, c231, c232, c233, c234, c235, c236, c237, c238, c239, c240, c241, c242, c243], []⟩ w') : Code.wp Try.prog onceSwitch (Exit.then K Q') ⟨#[c0, c1, c2, c3, c4, .int .i64 n, .pointer (some ⟨b, 0, none⟩), c7, .slice ah H.length ch, vo, .slice (some ⟨p, 0, none⟩) n n, c11, .pointer (some ⟨xb, 0, none⟩), .int .i64 q, .int .u8 r, c15, c16, c17, c18, c19, c20, c21, c22, c23, c24, c25, c26, c27, c28, c29, c30, c31, c32, c33, c34, c35, c36, c37, c38, c39, c40, c41, c42, c43, c44, c45, c46, c47, c48, c49, c50, c51, c52, c53, c54, c55, c56, c57, c58, c59, c60, c61, c62, c63, c64, c65, c66, c67, c68, c69, c70, c71, c72, c73, c74, c75, c76, c77, c78, c79, c80, c81, c82, c83, c84, c85, c86, c87, c88, c89, c90, c91, c92, c93, c94, c95, c96, c97, c98, c99, c100, c101, c102, c103, c104, c105, c106, c107, c108, c109, c110, c111, c112, c113, c114, c115, c116, c117, c118, c119, c120, c121, c122, c123, c124, c125, c126, c127, c128, c129, c130, c131, c132, c133, c134, c135, c136, c137, c138, c139, c140, c141, c142, c143, c144, c145, c146, c147, c148, c149, c150, c151, c152, c153, c154, c155, c156, c157, c158, c159, c160, c161, c162, c163, c164, c165, c166, c167, c168, c169, c170, c171, c172, c173, c174, c175, c176, c177, c178, c179, c180, c181, c182, c183, c184, c185, c186, c187, c188, c189, c190, c191, c192, c193, c194, c195, c196, c197, c198, c199, c200, c201, c202, c203, c204, c205, c206, c207, c208, c209, c210, c211, c212, c213, c214, c215, c216, c217, c218, c219, c220, c221, c222, c223, c224, c225, c226, c227, c228, c229, c230, c231, c232, c233, c234, c235, c236, c237, c238, c239, c240, c241, c242, c243], []⟩ wc := by
  have r1 : 2 ≤ r := by omega
  have r2 : r ≤ 2 := by omega
  clear hr
  have e2 : ((r : Int) == 2) = true := beq_iff_eq.2 (by omega)
  have e4 : ((r : Int) == 4) = false := beq_eq_false_iff_ne.2 (by omega)
  have e5 : ((r : Int) == 5) = false := beq_eq_false_iff_ne.2 (by omega)
  have e7 : ((r : Int) == 7) = false := beq_eq_false_iff_ne.2 (by omega)
  conv => arg 2; whnf
  rcases hq with ⟨hH, hqq⟩ | ⟨hH, hqq⟩
  · have hq0 : q < 0 := by omega
    clear hqq hH
    go_wp2
    exact hK _ _ _ _ _ _ _ _ _ _ _ _ _ _ _ _ _ _ _ _ _ _ _ _ _ _ _ _ _ _ _ _ _ _ _ _ _ _ _ _ _ _ _ _ _ _ _ _ _ _ _ _ _ _ _ _ _ _ _ _ _ _ _ _ _ _ _ _ _ _ _ _ _ _ _ _ _ _ _ _ _ _ _ _ _ _ _ _ _ _ _ _ _ _ _ _ _ _ _ _ _ _ _ _ _ _ _ _ _ _ _ _ _ _ _ _ _ _ _ _ _ _ _ _ _ _ _ _ _ _ _ _ _ _ _ _ _ _ _ _ _ _ _ _ _ _ _ _  hO1 hI.mono
  · obtain ⟨m, hm⟩ : ∃ m, m = x.at_ % H.length := ⟨_, rfl⟩
    have hmH : m < H.length := by rw [hm]; exact Nat.mod_lt _ hH
    obtain rfl : q = (m : Nat) := by rw [hqq, hm]; simp
    clear hqq hm
    obtain ⟨a', c', hv, hHV⟩ := hO1.hadV
    obtain ⟨g, hag, hpg, hcl⟩ := hHV hH
    clear hcl
    simp only [Value.slice.injEq] at hv
    obtain ⟨rfl, _, rfl⟩ := hv
    subst hag
    obtain ⟨ao, co, hvo, hOV⟩ := hO1.overV
    obtain ⟨go, hgo, hpgo, hcl, hcl2⟩ := hOV (by rw [← hI.same]; exact hH)
    clear hcl hcl2
    subst hgo
    subst hvo
    clear hHV hOV
    obtain ⟨y1, y2⟩ := hO1.hadAt m hmH
    have hsl := hI.slots m hmH
    have hgen : (H.getD m (0, 0)).2 ≤ k + 1 := by have a1 := hI.old m hmH; have a2 := hI.gens (H.getD m (0, 0)).1; omega
    have hmO : (m : Int) < (O.length : Int) := by rw [← hI.same]; omega
    have hmO' : m < O.length := by omega
    have lv := hI.leave (z := 0) (by omega) hmH (by omega)
    generalize hS : (H.getD m (0, 0)).1 = s at y1 hsl lv
    generalize hT : (H.getD m (0, 0)).2 = t at y2 hgen lv
    have HS := Lib.hid hS
    clear hS hT
    cases hOm : O.getD m true
    · have q3 : wc.cell? ⟨go, m, none⟩ = some (.bool false) := by rw [hO1.overAt m hmO', hOm]
      have L1 := Lib.hid lv.1
      have L2 := Lib.hid (lv.2.trans (show (if O.getD m true then (9 : Int) else 0) = 0 by rw [hOm]; rfl))
      have HO := Lib.hid hOm
      clear hOm lv
      go_wp2_with (first | (go_at_call 11; go_must (refine (OGive_to hO1 s t (by omega) (by omega) L2.out).mono ?_; rintro e w2 ⟨rfl, hO2⟩); go_must (have y3 : w2.cell? ⟨g, m * 2, none⟩ = some (.int .i64 (s : Nat)) := (HS.out ▸ (hO2.hadAt m hmH).1); have q5 : w2.cell? ⟨go, m, none⟩ = some (.bool false) := (HO.out ▸ hO2.overAt m hmO'); have q8 := hO2.overF rfl m)))
      exact hK _ _ _ _ _ _ _ _ _ _ _ _ _ _ _ _ _ _ _ _ _ _ _ _ _ _ _ _ _ _ _ _ _ _ _ _ _ _ _ _ _ _ _ _ _ _ _ _ _ _ _ _ _ _ _ _ _ _ _ _ _ _ _ _ _ _ _ _ _ _ _ _ _ _ _ _ _ _ _ _ _ _ _ _ _ _ _ _ _ _ _ _ _ _ _ _ _ _ _ _ _ _ _ _ _ _ _ _ _ _ _ _ _ _ _ _ _ _ _ _ _ _ _ _ _ _ _ _ _ _ _ _ _ _ _ _ _ _ _ _ _ _ _ _ _ _ _ _  ((hO2.congrG (G' := fun j => if j = s then (G j || (0 == 2 && !(O.getD m true))) else G j) (fun j _ => by by_cases e : j = s <;> simp [e])).setOver rfl hpgo m) L1.out
    · have q3 : wc.cell? ⟨go, m, none⟩ = some (.bool true) := by rw [hO1.overAt m hmO', hOm]
      have L1 := Lib.hid lv.1
      have L2 := Lib.hid (lv.2.trans (show (if O.getD m true then (9 : Int) else 0) = 9 by rw [hOm]; rfl))
      have HO := Lib.hid hOm
      clear hOm lv
      go_wp2_with (first | (go_at_call 11; go_must (refine (OGive_to hO1 s t (by omega) (by omega) L2.out).mono ?_; rintro e w2 ⟨rfl, hO2⟩); go_must (have y3 : w2.cell? ⟨g, m * 2, none⟩ = some (.int .i64 (s : Nat)) := (HS.out ▸ (hO2.hadAt m hmH).1); have q5 : w2.cell? ⟨go, m, none⟩ = some (.bool true) := (HO.out ▸ hO2.overAt m hmO'); have q8 := hO2.overF rfl m)))
      exact hK _ _ _ _ _ _ _ _ _ _ _ _ _ _ _ _ _ _ _ _ _ _ _ _ _ _ _ _ _ _ _ _ _ _ _ _ _ _ _ _ _ _ _ _ _ _ _ _ _ _ _ _ _ _ _ _ _ _ _ _ _ _ _ _ _ _ _ _ _ _ _ _ _ _ _ _ _ _ _ _ _ _ _ _ _ _ _ _ _ _ _ _ _ _ _ _ _ _ _ _ _ _ _ _ _ _ _ _ _ _ _ _ _ _ _ _ _ _ _ _ _ _ _ _ _ _ _ _ _ _ _ _ _ _ _ _ _ _ _ _ _ _ _ _ _ _ _ _  ((hO2.congrG (G' := fun j => if j = s then (G j || (0 == 2 && !(O.getD m true))) else G j) (fun j _ => by by_cases e : j = s <;> simp [e])).setOver rfl hpgo m) L1.out

set_option maxRecDepth 100000 in
set_option maxHeartbeats 1000000 in
theorem sw_leave5 {w0 wc : World} {b p n xb k : Nat} {ah : Option Addr} {ch : Nat} {vo : Value} {st : St} {H : List (Nat × Nat)} {O : List Bool} {G : Nat → Bool} {q : Int} {K : Act → World → Prop} {Q' : Exit → Act → World → Prop} {x : ActV} (r : Nat)
    (hO1 : OnceAt w0 wc b p n (.slice ah H.length ch) vo st H O G) (hI : Inv n st H O G k) (hn1 : 1 ≤ n) (hn2 : n ≤ 256) (hk : k < 150)
    (x1 : wc.cell? ⟨xb, 1, none⟩ = some (.int .u8 (x.at_ : Nat))) (hx1 : x.at_ < 256) (hq : (H.length = 0 ∧ q = -1) ∨ (0 < H.length ∧ q = x.at_ % H.length)) (hr : (r : Int) = 5)
    (hK : ∀ (d4 d14 d15 d16 d17 d18 d19 d20 d21 d22 d70 d71 d72 d73 d74 d75 d76 d77 d78 d79 d80 d81 d82 d83 d84 d85 d86 d87 d88 d89 d90 d91 d92 d93 d94 d95 d96 d97 d98 d99 d100 d101 d102 d103 d104 d105 d106 d107 d108 d109 d110 d111 d112 d113 d114 d115 d116 d117 d118 d119 d120 d121 d122 d123 d124 d125 d126 d127 d128 d129 d130 d131 d132 d133 d134 d135 d136 d137 d138 d139 d140 d141 d142 d143 d144 d145 d146 d147 d148 d149 d150 d151 d152 d153 d154 d155 d156 d157 d158 d159 d160 d161 d162 d163 d164 d165 d166 d167 d168 d169 d170 d171 d172 d173 d174 d175 d176 d177 d178 d179 d180 d181 d182 d183 d184 d185 d186 d187 d188 d189 d190 d191 d192 d193 d194 d195 d196 d197 d198 d199 d200 : Value) (vh' vo' : Value) (w' : World) (st' : St) (H' : List (Nat × Nat)) (O' : List Bool) (G' : Nat → Bool), OnceAt w0 w' b p n vh' vo' st' H' O' G' → Inv n st' H' O' G' (k + 1) → K ⟨#[c0, c1, c2, c3, d4, .int .i64 n, .pointer (some ⟨b, 0, none⟩), c7, vh', vo', .slice (some ⟨p, 0, none⟩) n n, c11, .pointer (some ⟨xb, 0, none⟩), .int .i64 q, d14, d15, d16, d17, d18, d19, d20, d21, d22, c23, c24, c25, c26, c27, c28, c29, c30, c31, c32, c33, c34, c35, c36, c37, c38, c39, c40, c41, c42, c43, c44, c45, c46, c47, c48, c49, c50, c51, c52, c53, c54, c55, c56, c57, c58, c59, c60, c61, c62, c63, c64, c65, c66, c67, c68, c69, d70, d71, d72, d73, d74, d75, d76, d77, d78, d79, d80, d81, d82, d83, d84, d85, d86, d87, d88, d89, d90, d91, d92, d93, d94, d95, d96, d97, d98, d99, d100, d101, d102, d103, d104, d105, d106, d107, d108, d109, d110, d111, d112, d113, d114, d115, d116, d117, d118, d119, d120, d121, d122, d123, d124, d125, d126, d127, d128, d129, d130, d131, d132, d133, d134, d135, d136, d137, d138, d139, d140, d141, d142, d143, d144, d145, d146, d147, d148, d149, d150, d151, d152, d153, d154, d155, d156, d157, d158, d159, d160, d161, d162, d163, d164, d165, d166, d167, d168, d169, d170, d171, d172, d173, d174, d175, d176, d177, d178, d179, d180, d181, d182, d183, d184, d185, d186, d187, d188, d189, d190, d191, d192, d193, d194, d195, d196, d197, d198, d199, d200, c201, c202, c203, c204, c205, c206, c207, c208, c209, c210, c211, c212, c213, c214, c215, c216, c217, c218, c219, c220, c221, c222, c223, c224, c225, c226, c227, c228, c229, c230, c231, c232, c233, c234, c235, c236, c237, c238, c239, c240, c241, c242, c243], []⟩ w') : Code.wp Try.prog onceSwitch (Exit.then K Q') ⟨#[c0, c1, c2, c3, c4, .int .i64 n, .pointer (some ⟨b, 0, none⟩), c7, .slice ah H.length ch, vo, .slice (some ⟨p, 0, none⟩) n n, c11, .pointer (some ⟨xb, 0, none⟩), .int .i64 q, .int .u8 r, c15, c16, c17, c18, c19, c20, c21, c22, c23, c24, c25, c26, c27, c28, c29, c30, c31, c32, c33, c34, c35, c36, c37, c38, c39, c40, c41, c42, c43, c44, c45, c46, c47, c48, c49, c50, c51, c52, c53, c54, c55, c56, c57, c58, c59, c60, c61, c62, c63, c64, c65, c66, c67, c68, c69, c70, c71, c72, c73, c74, c75, c76, c77, c78, c79, c80, c81, c82, c83, c84, c85, c86, c87, c88, c89, c90, c91, c92, c93, c94, c95, c96, c97, c98, c99, c100, c101, c102, c103, c104, c105, c106, c107, c108, c109, c110, c111, c112, c113, c114, c115, c116, c117, c118, c119, c120, c121, c122, c123, c124, c125, c126, c127, c128, c129, c130, c131, c132, c133, c134, c135, c136, c137, c138, c139, c140, c141, c142, c143, c144, c145, c146, c147, c148, c149, c150, c151, c152, c153, c154, c155, c156, c157, c158, c159, c160, c161, c162, c163, c164, c165, c166, c167, c168, c169, c170, c171, c172, c173, c174, c175, c176, c177, c178, c179, c180, c181, c182, c183, c184, c185, c186, c187, c188, c189, c190, c191, c192, c193, c194, c195, c196, c197, c198, c199, c200, c201, c202, c203, c204, c205, c206, c207, c208, c209, c210, c211, c212, c213, c214, c215, c216, c217, c218, c219, c220, c221, c222, c223, c224, c225, c226, c227, c228, c229, c230, c231, c232, c233, c234, c235, c236, c237, c238, c239, c240, c241, c242, c243], []⟩ wc := by
  have r1 : 5 ≤ r := by omega
  have r2 : r ≤ 5 := by omega
  clear hr
  have e2 : ((r : Int) == 2) = false := beq_eq_false_iff_ne.2 (by omega)
  have e4 : ((r : Int) == 4) = false := beq_eq_false_iff_ne.2 (by omega)
  have e5 : ((r : Int) == 5) = true := beq_iff_eq.2 (by omega)
  have e7 : ((r : Int) == 7) = false := beq_eq_false_iff_ne.2 (by omega)
  conv => arg 2; whnf
  rcases hq with ⟨hH, hqq⟩ | ⟨hH, hqq⟩
  · have hq0 : q < 0 := by omega
    clear hqq hH
    go_wp2
    exact hK _ _ _ _ _ _ _ _ _ _ _ _ _ _ _ _ _ _ _ _ _ _ _ _ _ _ _ _ _ _ _ _ _ _ _ _ _ _ _ _ _ _ _ _ _ _ _ _ _ _ _ _ _ _ _ _ _ _ _ _ _ _ _ _ _ _ _ _ _ _ _ _ _ _ _ _ _ _ _ _ _ _ _ _ _ _ _ _ _ _ _ _ _ _ _ _ _ _ _ _ _ _ _ _ _ _ _ _ _ _ _ _ _ _ _ _ _ _ _ _ _ _ _ _ _ _ _ _ _ _ _ _ _ _ _ _ _ _ _ _ _ _ _ _ _ _ _ _  hO1 hI.mono
  · obtain ⟨m, hm⟩ : ∃ m, m = x.at_ % H.length := ⟨_, rfl⟩
    have hmH : m < H.length := by rw [hm]; exact Nat.mod_lt _ hH
    obtain rfl : q = (m : Nat) := by rw [hqq, hm]; simp
    clear hqq hm
    obtain ⟨a', c', hv, hHV⟩ := hO1.hadV
    obtain ⟨g, hag, hpg, hcl⟩ := hHV hH
    clear hcl
    simp only [Value.slice.injEq] at hv
    obtain ⟨rfl, _, rfl⟩ := hv
    subst hag
    obtain ⟨ao, co, hvo, hOV⟩ := hO1.overV
    obtain ⟨go, hgo, hpgo, hcl, hcl2⟩ := hOV (by rw [← hI.same]; exact hH)
    clear hcl hcl2
    subst hgo
    subst hvo
    clear hHV hOV
    obtain ⟨y1, y2⟩ := hO1.hadAt m hmH
    have hsl := hI.slots m hmH
    have hgen : (H.getD m (0, 0)).2 ≤ k + 1 := by have a1 := hI.old m hmH; have a2 := hI.gens (H.getD m (0, 0)).1; omega
    have hmO : (m : Int) < (O.length : Int) := by rw [← hI.same]; omega
    have hmO' : m < O.length := by omega
    have lv := hI.leave (z := 0) (by omega) hmH (by omega)
    generalize hS : (H.getD m (0, 0)).1 = s at y1 hsl lv
    generalize hT : (H.getD m (0, 0)).2 = t at y2 hgen lv
    have HS := Lib.hid hS
    clear hS hT
    cases hOm : O.getD m true
    · have q3 : wc.cell? ⟨go, m, none⟩ = some (.bool false) := by rw [hO1.overAt m hmO', hOm]
      have L1 := Lib.hid lv.1
      have L2 := Lib.hid (lv.2.trans (show (if O.getD m true then (9 : Int) else 0) = 0 by rw [hOm]; rfl))
      have HO := Lib.hid hOm
      clear hOm lv
      go_wp2_with (first | (go_at_call 11; go_must (refine (OGive_to hO1 s t (by omega) (by omega) L2.out).mono ?_; rintro e w2 ⟨rfl, hO2⟩); go_must (have y3 : w2.cell? ⟨g, m * 2, none⟩ = some (.int .i64 (s : Nat)) := (HS.out ▸ (hO2.hadAt m hmH).1); have q5 : w2.cell? ⟨go, m, none⟩ = some (.bool false) := (HO.out ▸ hO2.overAt m hmO'); have q8 := hO2.overF rfl m)))
      exact hK _ _ _ _ _ _ _ _ _ _ _ _ _ _ _ _ _ _ _ _ _ _ _ _ _ _ _ _ _ _ _ _ _ _ _ _ _ _ _ _ _ _ _ _ _ _ _ _ _ _ _ _ _ _ _ _ _ _ _ _ _ _ _ _ _ _ _ _ _ _ _ _ _ _ _ _ _ _ _ _ _ _ _ _ _ _ _ _ _ _ _ _ _ _ _ _ _ _ _ _ _ _ _ _ _ _ _ _ _ _ _ _ _ _ _ _ _ _ _ _ _ _ _ _ _ _ _ _ _ _ _ _ _ _ _ _ _ _ _ _ _ _ _ _ _ _ _ _  ((hO2.congrG (G' := fun j => if j = s then (G j || (0 == 2 && !(O.getD m true))) else G j) (fun j _ => by by_cases e : j = s <;> simp [e])).setOver rfl hpgo m) L1.out
    · have q3 : wc.cell? ⟨go, m, none⟩ = some (.bool true) := by rw [hO1.overAt m hmO', hOm]
      have L1 := Lib.hid lv.1
      have L2 := Lib.hid (lv.2.trans (show (if O.getD m true then (9 : Int) else 0) = 9 by rw [hOm]; rfl))
      have HO := Lib.hid hOm
      clear hOm lv
      go_wp2_with (first | (go_at_call 11; go_must (refine (OGive_to hO1 s t (by omega) (by omega) L2.out).mono ?_; rintro e w2 ⟨rfl, hO2⟩); go_must (have y3 : w2.cell? ⟨g, m * 2, none⟩ = some (.int .i64 (s : Nat)) := (HS.out ▸ (hO2.hadAt m hmH).1); have q5 : w2.cell? ⟨go, m, none⟩ = some (.bool true) := (HO.out ▸ hO2.overAt m hmO'); have q8 := hO2.overF rfl m)))
      exact hK _ _ _ _ _ _ _ _ _ _ _ _ _ _ _ _ _ _ _ _ _ _ _ _ _ _ _ _ _ _ _ _ _ _ _ _ _ _ _ _ _ _ _ _ _ _ _ _ _ _ _ _ _ _ _ _ _ _ _ _ _ _ _ _ _ _ _ _ _ _ _ _ _ _ _ _ _ _ _ _ _ _ _ _ _ _ _ _ _ _ _ _ _ _ _ _ _ _ _ _ _ _ _ _ _ _ _ _ _ _ _ _ _ _ _ _ _ _ _ _ _ _ _ _ _ _ _ _ _ _ _ _ _ _ _ _ _ _ _ _ _ _ _ _ _ _ _ _  ((hO2.congrG (G' := fun j => if j = s then (G j || (0 == 2 && !(O.getD m true))) else G j) (fun j _ => by by_cases e : j = s <;> simp [e])).setOver rfl hpgo m) L1.out
end Go.Proofs.Ythfmngpocfofnaa
