/- SlabPlay's switch: one is taken. -/
import Derived.Test.YthfmngpocfofnaaPwDefs
namespace Go.Proofs.Ythfmngpocfofnaa
open Go Go.RowKit Go.Deep Md
variable {c0 c1 c2 c3 c4 c6 c8 c10 c14 c15 c16 c17 c18 c19 c20 c21 c22 c23 c24 c25 c26 c27 c28 c29 c30 c31 c32 c33 c34 c35 c36 c37 c38 c39 c40 c41 c42 c43 c44 c45 c46 c47 c48 c49 c50 c51 c52 c53 c54 c55 c56 c57 c58 c59 c60 c61 c62 c63 c64 c65 c66 c67 c68 c69 c70 c71 c72 c73 c74 c75 c76 c77 c78 c79 c80 c81 c82 c84 c85 c86 c87 c88 c89 c90 c91 c92 c93 c94 c95 c96 c97 c98 c99 c100 c101 c102 c103 c104 c105 c106 c107 c108 c109 c110 c111 c112 c113 c114 c115 c116 c117 c118 c119 c120 c121 c122 c123 c124 c125 c126 c127 c128 c129 c130 c131 c132 c133 c134 c135 c136 c137 c138 c139 c140 c141 c142 c143 c144 c145 c146 c147 c148 c149 c150 c151 c152 c153 c154 c155 c156 c157 c158 c159 c160 c161 c162 c163 c164 c165 c166 c167 c168 c169 c170 c171 c172 c173 c174 c175 c176 c177 c178 c179 c180 c181 c182 c183 c184 c185 c186 c187 c188 c189 c190 c191 c192 c193 c194 c195 c196 c197 c198 c199 c200 c201 c202 c203 c204 c205 c206 c207 c208 c209 c210 c211 c212 c213 c214 c215 c216 c217 c218 c219 c220 c221 c222 c223 c224 c225 c226 c227 c228 c229 c230 : Value}

set_option maxRecDepth 100000 in
set_option maxHeartbeats 1000000 in
theorem pw_take0 {w0 wc : World} {b r g cap xb : Nat} {ah : Option Addr} {ch : Nat} {st : St} {H : List (Nat × Nat)} {x : ActV} {s t : Int} {K : Act → World → Prop} {Q' : Exit → Act → World → Prop} (r8 : Nat)
    (hX : PX w0 wc b r g cap (.slice ah H.length ch) st st H xb x s t) (own : ∀ k, (Value.slice ah H.length ch).ownBlock = some k → k < xb) (hlen : H.length ≤ 200) (hr : (r8 : Int) = 0)
    (hK : ∀ (d14 d15 d16 d17 d84 d85 d86 d87 d88 d89 d90 d91 d92 d93 d94 d95 d96 d97 d98 d99 d100 d101 d102 d103 d104 d105 d106 d107 d108 d109 d110 d111 d112 d113 d114 d115 d116 d117 d118 d119 d120 d121 d122 d123 d124 d125 d126 d127 d128 d129 d130 d131 d132 d133 d134 d135 d136 d137 d138 d139 d140 d141 d142 d143 d144 d145 d146 d147 d148 d149 d150 : Value) (vh' : Value) (w' : World) (st' : St) (H' : List (Nat × Nat)), PX w0 w' b r g cap vh' st' st' H' xb x s t → Next st H st' H' → K ⟨#[c0, c1, c2, c3, c4, .pointer (some ⟨b, 0, none⟩), c6, .pointer (some ⟨r, 0, none⟩), c8, vh', c10, .pointer (some ⟨xb, 0, none⟩), .pointer (some ⟨xb + 1, 0, none⟩), .bool true, d14, d15, d16, d17, c18, c19, c20, c21, c22, c23, c24, c25, c26, c27, c28, c29, c30, c31, c32, c33, c34, c35, c36, c37, c38, c39, c40, c41, c42, c43, c44, c45, c46, c47, c48, c49, c50, c51, c52, c53, c54, c55, c56, c57, c58, c59, c60, c61, c62, c63, c64, c65, c66, c67, c68, c69, c70, c71, c72, c73, c74, c75, c76, c77, c78, c79, c80, c81, c82, .int .u8 r8, d84, d85, d86, d87, d88, d89, d90, d91, d92, d93, d94, d95, d96, d97, d98, d99, d100, d101, d102, d103, d104, d105, d106, d107, d108, d109, d110, d111, d112, d113, d114, d115, d116, d117, d118, d119, d120, d121, d122, d123, d124, d125, d126, d127, d128, d129, d130, d131, d132, d133, d134, d135, d136, d137, d138, d139, d140, d141, d142, d143, d144, d145, d146, d147, d148, d149, d150, c151, c152, c153, c154, c155, c156, c157, c158, c159, c160, c161, c162, c163, c164, c165, c166, c167, c168, c169, c170, c171, c172, c173, c174, c175, c176, c177, c178, c179, c180, c181, c182, c183, c184, c185, c186, c187, c188, c189, c190, c191, c192, c193, c194, c195, c196, c197, c198, c199, c200, c201, c202, c203, c204, c205, c206, c207, c208, c209, c210, c211, c212, c213, c214, c215, c216, c217, c218, c219, c220, c221, c222, c223, c224, c225, c226, c227, c228, c229, c230], []⟩ w') : Code.wp Try.prog playSwitch (Exit.then K Q') ⟨#[c0, c1, c2, c3, c4, .pointer (some ⟨b, 0, none⟩), c6, .pointer (some ⟨r, 0, none⟩), c8, .slice ah H.length ch, c10, .pointer (some ⟨xb, 0, none⟩), .pointer (some ⟨xb + 1, 0, none⟩), .bool true, c14, c15, c16, c17, c18, c19, c20, c21, c22, c23, c24, c25, c26, c27, c28, c29, c30, c31, c32, c33, c34, c35, c36, c37, c38, c39, c40, c41, c42, c43, c44, c45, c46, c47, c48, c49, c50, c51, c52, c53, c54, c55, c56, c57, c58, c59, c60, c61, c62, c63, c64, c65, c66, c67, c68, c69, c70, c71, c72, c73, c74, c75, c76, c77, c78, c79, c80, c81, c82, .int .u8 r8, c84, c85, c86, c87, c88, c89, c90, c91, c92, c93, c94, c95, c96, c97, c98, c99, c100, c101, c102, c103, c104, c105, c106, c107, c108, c109, c110, c111, c112, c113, c114, c115, c116, c117, c118, c119, c120, c121, c122, c123, c124, c125, c126, c127, c128, c129, c130, c131, c132, c133, c134, c135, c136, c137, c138, c139, c140, c141, c142, c143, c144, c145, c146, c147, c148, c149, c150, c151, c152, c153, c154, c155, c156, c157, c158, c159, c160, c161, c162, c163, c164, c165, c166, c167, c168, c169, c170, c171, c172, c173, c174, c175, c176, c177, c178, c179, c180, c181, c182, c183, c184, c185, c186, c187, c188, c189, c190, c191, c192, c193, c194, c195, c196, c197, c198, c199, c200, c201, c202, c203, c204, c205, c206, c207, c208, c209, c210, c211, c212, c213, c214, c215, c216, c217, c218, c219, c220, c221, c222, c223, c224, c225, c226, c227, c228, c229, c230], []⟩ wc := by
  have r1 : 0 ≤ r8 := by omega
  have r2 : r8 ≤ 0 := by omega
  clear hr
  have e0 : ((r8 : Int) == 0) = true := beq_iff_eq.2 (by omega)
  have e1 : ((r8 : Int) == 1) = false := beq_eq_false_iff_ne.2 (by omega)
  have e2 : ((r8 : Int) == 2) = false := beq_eq_false_iff_ne.2 (by omega)
  have e3 : ((r8 : Int) == 3) = false := beq_eq_false_iff_ne.2 (by omega)
  have e4 : ((r8 : Int) == 4) = false := beq_eq_false_iff_ne.2 (by omega)
  have e5 : ((r8 : Int) == 5) = false := beq_eq_false_iff_ne.2 (by omega)
  have e6 : ((r8 : Int) == 6) = false := beq_eq_false_iff_ne.2 (by omega)
  obtain ⟨i0, hi, hz0, hz1, hz2⟩ := info_parts Try.info31
  obtain ⟨p, q, E, hv, hp, hq⟩ := takeV_form hX.slab.ok
  have HV := Lib.hid hv
  have hpp : ((p : Int) == (p : Int)) = true := by simp
  have hqq : ((q : Int) == (q : Int)) = true := by simp
  have hee : (E == E) = true := by simp
  clear hv
  conv => arg 2; whnf
  go_wp2_with (first | (go_at_call 9; refine (XTake hX HV.out).mono ?_; rintro e w2 ⟨rfl, hX2⟩) | (go_at_call 16; refine (XTakeU (hX2.alloc _) HV.out).mono ?_; rintro e w3 ⟨rfl, hX3, hu3⟩))
  have hgA : ¬ w2.heap.size = g := by have := hX2.ref.lt; omega
  have a0 := keep_alloc (hu3.keep (new_1 w2 #[.int .i64 (p : Nat), .int .u32 (q : Nat)] 31 0 (.int .i64 (p : Nat)) rfl) hgA) (.cells #[.int .i64 (p : Nat), .int .u32 (q : Nat)] 31)
  have a1 := keep_alloc (hu3.keep (new_1 w2 #[.int .i64 (p : Nat), .int .u32 (q : Nat)] 31 1 (.int .u32 (q : Nat)) rfl) hgA) (.cells #[.int .i64 (p : Nat), .int .u32 (q : Nat)] 31)
  have b0 := new_1 w3 #[.int .i64 (p : Nat), .int .u32 (q : Nat)] 31 0 (.int .i64 (p : Nat)) rfl
  have b1 := new_1 w3 #[.int .i64 (p : Nat), .int .u32 (q : Nat)] 31 1 (.int .u32 (q : Nat)) rfl
  have lA := World.block_lt_of_cell? _ _ hX2.x0
  have lB := World.block_lt_of_cell? _ _ hX3.x0
  have hX4 := hX3.alloc (.cells #[.int .i64 (p : Nat), .int .u32 (q : Nat)] 31)
  clear hX hX2 hX3 hu3 hgA
  simp only at lA lB
  generalize w3.alloc (.cells #[.int .i64 (p : Nat), .int .u32 (q : Nat)] 31) = W4 at a0 a1 b0 b1 hX4 ⊢
  generalize w2.heap.size = A at a0 a1 lA ⊢
  generalize w3.heap.size = B at b0 b1 lB ⊢
  have nA : ¬ (Value.slice ah H.length ch).ownBlock = some A := fun e => by have := own _ e; omega
  have nB : ¬ (Value.slice ah H.length ch).ownBlock = some B := fun e => by have := own _ e; omega
  have hgl := hX4.ref.lt
  go_region_held3 (fun w' => (w'.cell? ⟨A, 0, none⟩ = some (.int .i64 (p : Nat)) ∧ w'.cell? ⟨A, 1, none⟩ = some (.int .u32 (q : Nat))) ∧ (w'.cell? ⟨B, 0, none⟩ = some (.int .i64 (p : Nat)) ∧ w'.cell? ⟨B, 1, none⟩ = some (.int .u32 (q : Nat))))
    (first | exact ⟨⟨a0, a1⟩, b0, b1⟩ | exact ⟨⟨keep_alloc a0 _, keep_alloc a1 _⟩, keep_alloc b0 _, keep_alloc b1 _⟩ | exact ⟨⟨(Upto.of_grown hgrow).keep (keep_alloc a0 _) nA, (Upto.of_grown hgrow).keep (keep_alloc a1 _) nA⟩, (Upto.of_grown hgrow).keep (keep_alloc b0 _) nB, (Upto.of_grown hgrow).keep (keep_alloc b1 _) nB⟩)
    ((refine step_append_lies _ (by rfl) _ _ _ (by rfl) (g + 1) 31 i0 _ 2 16 Try.underlying28 hi hz0 hz1 hz2 rfl (by omega) (.slice ah H.length ch) H.length (hcl H) (by rfl) ((hX4.had.alloc _).drew)
          ⟨W4.heap.size, 0, none⟩ 1 1 [.int .i64 (p : Nat), .int .u32 (q : Nat)] (by rfl) (by rfl) (World.news_of_block (cs := #[.int .i64 (p : Nat), .int .u32 (q : Nat)]) (t := 31) (fr := (0, 0)) (heap_alloc_new W4 _)) (pair_one' _ _ _ _)
          (by omega) (by unfold maxLen; omega) (by omega) (by simp; omega) (W4.heap.size + 1) (by simp) ?_; intro gg cap1 w5 hown1 hgrow hat hlt))
  go_wp2
  exact hK _ _ _ _ _ _ _ _ _ _ _ _ _ _ _ _ _ _ _ _ _ _ _ _ _ _ _ _ _ _ _ _ _ _ _ _ _ _ _ _ _ _ _ _ _ _ _ _ _ _ _ _ _ _ _ _ _ _ _ _ _ _ _ _ _ _ _ _ _ _ _ _ _ _ _  ((hX4.alloc (.cells #[.int .i64 (p : Nat), .int .u32 (q : Nat)] 31)).drew.more own hgrow (H' := H ++ [(p, q)]) (by rw [hcl_snoc, List.length_append]; exact hown1)) (Next.take st H hp hq)

set_option maxRecDepth 100000 in
set_option maxHeartbeats 1000000 in
theorem pw_take1 {w0 wc : World} {b r g cap xb : Nat} {ah : Option Addr} {ch : Nat} {st : St} {H : List (Nat × Nat)} {x : ActV} {s t : Int} {K : Act → World → Prop} {Q' : Exit → Act → World → Prop} (r8 : Nat)
    (hX : PX w0 wc b r g cap (.slice ah H.length ch) st st H xb x s t) (own : ∀ k, (Value.slice ah H.length ch).ownBlock = some k → k < xb) (hlen : H.length ≤ 200) (hr : (r8 : Int) = 1)
    (hK : ∀ (d14 d15 d16 d17 d84 d85 d86 d87 d88 d89 d90 d91 d92 d93 d94 d95 d96 d97 d98 d99 d100 d101 d102 d103 d104 d105 d106 d107 d108 d109 d110 d111 d112 d113 d114 d115 d116 d117 d118 d119 d120 d121 d122 d123 d124 d125 d126 d127 d128 d129 d130 d131 d132 d133 d134 d135 d136 d137 d138 d139 d140 d141 d142 d143 d144 d145 d146 d147 d148 d149 d150 : Value) (vh' : Value) (w' : World) (st' : St) (H' : List (Nat × Nat)), PX w0 w' b r g cap vh' st' st' H' xb x s t → Next st H st' H' → K ⟨#[c0, c1, c2, c3, c4, .pointer (some ⟨b, 0, none⟩), c6, .pointer (some ⟨r, 0, none⟩), c8, vh', c10, .pointer (some ⟨xb, 0, none⟩), .pointer (some ⟨xb + 1, 0, none⟩), .bool true, d14, d15, d16, d17, c18, c19, c20, c21, c22, c23, c24, c25, c26, c27, c28, c29, c30, c31, c32, c33, c34, c35, c36, c37, c38, c39, c40, c41, c42, c43, c44, c45, c46, c47, c48, c49, c50, c51, c52, c53, c54, c55, c56, c57, c58, c59, c60, c61, c62, c63, c64, c65, c66, c67, c68, c69, c70, c71, c72, c73, c74, c75, c76, c77, c78, c79, c80, c81, c82, .int .u8 r8, d84, d85, d86, d87, d88, d89, d90, d91, d92, d93, d94, d95, d96, d97, d98, d99, d100, d101, d102, d103, d104, d105, d106, d107, d108, d109, d110, d111, d112, d113, d114, d115, d116, d117, d118, d119, d120, d121, d122, d123, d124, d125, d126, d127, d128, d129, d130, d131, d132, d133, d134, d135, d136, d137, d138, d139, d140, d141, d142, d143, d144, d145, d146, d147, d148, d149, d150, c151, c152, c153, c154, c155, c156, c157, c158, c159, c160, c161, c162, c163, c164, c165, c166, c167, c168, c169, c170, c171, c172, c173, c174, c175, c176, c177, c178, c179, c180, c181, c182, c183, c184, c185, c186, c187, c188, c189, c190, c191, c192, c193, c194, c195, c196, c197, c198, c199, c200, c201, c202, c203, c204, c205, c206, c207, c208, c209, c210, c211, c212, c213, c214, c215, c216, c217, c218, c219, c220, c221, c222, c223, c224, c225, c226, c227, c228, c229, c230], []⟩ w') : Code.wp Try.prog playSwitch (Exit.then K Q') ⟨#[c0, c1, c2, c3, c4, .pointer (some ⟨b, 0, none⟩), c6, .pointer (some ⟨r, 0, none⟩), c8, .slice ah H.length ch, c10, .pointer (some ⟨xb, 0, none⟩), .pointer (some ⟨xb + 1, 0, none⟩), .bool true, c14, c15, c16, c17, c18, c19, c20, c21, c22, c23, c24, c25, c26, c27, c28, c29, c30, c31, c32, c33, c34, c35, c36, c37, c38, c39, c40, c41, c42, c43, c44, c45, c46, c47, c48, c49, c50, c51, c52, c53, c54, c55, c56, c57, c58, c59, c60, c61, c62, c63, c64, c65, c66, c67, c68, c69, c70, c71, c72, c73, c74, c75, c76, c77, c78, c79, c80, c81, c82, .int .u8 r8, c84, c85, c86, c87, c88, c89, c90, c91, c92, c93, c94, c95, c96, c97, c98, c99, c100, c101, c102, c103, c104, c105, c106, c107, c108, c109, c110, c111, c112, c113, c114, c115, c116, c117, c118, c119, c120, c121, c122, c123, c124, c125, c126, c127, c128, c129, c130, c131, c132, c133, c134, c135, c136, c137, c138, c139, c140, c141, c142, c143, c144, c145, c146, c147, c148, c149, c150, c151, c152, c153, c154, c155, c156, c157, c158, c159, c160, c161, c162, c163, c164, c165, c166, c167, c168, c169, c170, c171, c172, c173, c174, c175, c176, c177, c178, c179, c180, c181, c182, c183, c184, c185, c186, c187, c188, c189, c190, c191, c192, c193, c194, c195, c196, c197, c198, c199, c200, c201, c202, c203, c204, c205, c206, c207, c208, c209, c210, c211, c212, c213, c214, c215, c216, c217, c218, c219, c220, c221, c222, c223, c224, c225, c226, c227, c228, c229, c230], []⟩ wc := by
  have r1 : 1 ≤ r8 := by omega
  have r2 : r8 ≤ 1 := by omega
  clear hr
  have e0 : ((r8 : Int) == 0) = false := beq_eq_false_iff_ne.2 (by omega)
  have e1 : ((r8 : Int) == 1) = true := beq_iff_eq.2 (by omega)
  have e2 : ((r8 : Int) == 2) = false := beq_eq_false_iff_ne.2 (by omega)
  have e3 : ((r8 : Int) == 3) = false := beq_eq_false_iff_ne.2 (by omega)
  have e4 : ((r8 : Int) == 4) = false := beq_eq_false_iff_ne.2 (by omega)
  have e5 : ((r8 : Int) == 5) = false := beq_eq_false_iff_ne.2 (by omega)
  have e6 : ((r8 : Int) == 6) = false := beq_eq_false_iff_ne.2 (by omega)
  obtain ⟨i0, hi, hz0, hz1, hz2⟩ := info_parts Try.info31
  obtain ⟨p, q, E, hv, hp, hq⟩ := takeV_form hX.slab.ok
  have HV := Lib.hid hv
  have hpp : ((p : Int) == (p : Int)) = true := by simp
  have hqq : ((q : Int) == (q : Int)) = true := by simp
  have hee : (E == E) = true := by simp
  clear hv
  conv => arg 2; whnf
  go_wp2_with (first | (go_at_call 9; refine (XTake hX HV.out).mono ?_; rintro e w2 ⟨rfl, hX2⟩) | (go_at_call 16; refine (XTakeU (hX2.alloc _) HV.out).mono ?_; rintro e w3 ⟨rfl, hX3, hu3⟩))
  have hgA : ¬ w2.heap.size = g := by have := hX2.ref.lt; omega
  have a0 := keep_alloc (hu3.keep (new_1 w2 #[.int .i64 (p : Nat), .int .u32 (q : Nat)] 31 0 (.int .i64 (p : Nat)) rfl) hgA) (.cells #[.int .i64 (p : Nat), .int .u32 (q : Nat)] 31)
  have a1 := keep_alloc (hu3.keep (new_1 w2 #[.int .i64 (p : Nat), .int .u32 (q : Nat)] 31 1 (.int .u32 (q : Nat)) rfl) hgA) (.cells #[.int .i64 (p : Nat), .int .u32 (q : Nat)] 31)
  have b0 := new_1 w3 #[.int .i64 (p : Nat), .int .u32 (q : Nat)] 31 0 (.int .i64 (p : Nat)) rfl
  have b1 := new_1 w3 #[.int .i64 (p : Nat), .int .u32 (q : Nat)] 31 1 (.int .u32 (q : Nat)) rfl
  have lA := World.block_lt_of_cell? _ _ hX2.x0
  have lB := World.block_lt_of_cell? _ _ hX3.x0
  have hX4 := hX3.alloc (.cells #[.int .i64 (p : Nat), .int .u32 (q : Nat)] 31)
  clear hX hX2 hX3 hu3 hgA
  simp only at lA lB
  generalize w3.alloc (.cells #[.int .i64 (p : Nat), .int .u32 (q : Nat)] 31) = W4 at a0 a1 b0 b1 hX4 ⊢
  generalize w2.heap.size = A at a0 a1 lA ⊢
  generalize w3.heap.size = B at b0 b1 lB ⊢
  have nA : ¬ (Value.slice ah H.length ch).ownBlock = some A := fun e => by have := own _ e; omega
  have nB : ¬ (Value.slice ah H.length ch).ownBlock = some B := fun e => by have := own _ e; omega
  have hgl := hX4.ref.lt
  go_region_held3 (fun w' => (w'.cell? ⟨A, 0, none⟩ = some (.int .i64 (p : Nat)) ∧ w'.cell? ⟨A, 1, none⟩ = some (.int .u32 (q : Nat))) ∧ (w'.cell? ⟨B, 0, none⟩ = some (.int .i64 (p : Nat)) ∧ w'.cell? ⟨B, 1, none⟩ = some (.int .u32 (q : Nat))))
    (first | exact ⟨⟨a0, a1⟩, b0, b1⟩ | exact ⟨⟨keep_alloc a0 _, keep_alloc a1 _⟩, keep_alloc b0 _, keep_alloc b1 _⟩ | exact ⟨⟨(Upto.of_grown hgrow).keep (keep_alloc a0 _) nA, (Upto.of_grown hgrow).keep (keep_alloc a1 _) nA⟩, (Upto.of_grown hgrow).keep (keep_alloc b0 _) nB, (Upto.of_grown hgrow).keep (keep_alloc b1 _) nB⟩)
    ((refine step_append_lies _ (by rfl) _ _ _ (by rfl) (g + 1) 31 i0 _ 2 16 Try.underlying28 hi hz0 hz1 hz2 rfl (by omega) (.slice ah H.length ch) H.length (hcl H) (by rfl) ((hX4.had.alloc _).drew)
          ⟨W4.heap.size, 0, none⟩ 1 1 [.int .i64 (p : Nat), .int .u32 (q : Nat)] (by rfl) (by rfl) (World.news_of_block (cs := #[.int .i64 (p : Nat), .int .u32 (q : Nat)]) (t := 31) (fr := (0, 0)) (heap_alloc_new W4 _)) (pair_one' _ _ _ _)
          (by omega) (by unfold maxLen; omega) (by omega) (by simp; omega) (W4.heap.size + 1) (by simp) ?_; intro gg cap1 w5 hown1 hgrow hat hlt))
  go_wp2
  exact hK _ _ _ _ _ _ _ _ _ _ _ _ _ _ _ _ _ _ _ _ _ _ _ _ _ _ _ _ _ _ _ _ _ _ _ _ _ _ _ _ _ _ _ _ _ _ _ _ _ _ _ _ _ _ _ _ _ _ _ _ _ _ _ _ _ _ _ _ _ _ _ _ _ _ _  ((hX4.alloc (.cells #[.int .i64 (p : Nat), .int .u32 (q : Nat)] 31)).drew.more own hgrow (H' := H ++ [(p, q)]) (by rw [hcl_snoc, List.length_append]; exact hown1)) (Next.take st H hp hq)
end Go.Proofs.Ythfmngpocfofnaa
