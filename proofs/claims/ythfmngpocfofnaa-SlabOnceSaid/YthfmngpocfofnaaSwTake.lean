/- SlabOnce's switch: one is taken. -/
import Derived.Test.YthfmngpocfofnaaSwDefs
namespace Go.Proofs.Ythfmngpocfofnaa
open Go Go.RowKit Go.Deep Md
theorem Try.info4 : (Try.prog.info? 4).map (fun i => (i.zero, i.size, i.bytes)) = some (some (.bool false), 1, 1) := by kernel_rfl
theorem pair_one (k k' : IntKind) (x y : Int) : ∀ u ∈ [Value.int k x, Value.int k' y], u.oneCell' = true := by
  intro u hu; simp at hu; rcases hu with rfl | rfl <;> rfl
theorem one_new (w : World) (x : Value) (t : TypeId) : ∀ j u, [x][j]? = some u → (w.alloc (.cells #[x] t)).cell? ((⟨w.heap.size, 0, none⟩ : Addr).add j) = some u := by
  intro j u hj
  match j, hj with
  | 0, hj => simp at hj; subst hj; rw [Addr.add_lit]; exact new_1 w #[x] t 0 x rfl
/-- Both lists are one longer. -/
theorem OnceAt.two {w0 w w4 w5 : World} {b p n j gj : Nat} {vh vo v1 v2 : Value} {st : St} {H : List (Nat × Nat)} {O : List Bool} {G : Nat → Bool} {o1 o2 : Obj} (h : OnceAt w0 w b p n vh vo st H O G)
    (a1 : w4.ownsRow (p + 1) 31 2 v1 (H.length + 1) (hcl H ++ [.int .i64 (j : Nat), .int .u32 (gj : Nat)])) (g1 : (w.alloc o1).grownBy w4 vh.ownBlock)
    (a2 : w5.ownsRow (p + 1) 4 1 v2 (O.length + 1) (O.map Value.bool ++ [.bool false])) (g2 : (w4.alloc o2).grownBy w5 vo.ownBlock) :
    OnceAt w0 w5 b p n v1 v2 st (H ++ [(j, gj)]) (O ++ [false]) G := by
  have hb := h.hb
  have hw := h.hw
  have s1 : w.heap.size + 1 ≤ w4.heap.size := by have := g1.size; simpa using this
  have u1 := Upto.of_grown g1
  have u2 := Upto.of_grown g2
  have n1 : ∀ k, vh.ownBlock = some k → p + 1 ≤ k := fun k hk => (h.had.lt k hk).1
  have n2 : ∀ k, vo.ownBlock = some k → p + 1 ≤ k := fun k hk => (h.over.lt k hk).1
  have e1 : vo.ownBlock ≠ none → ∀ k, v1.ownBlock = some k → vo.ownBlock ≠ some k := fun _ k hk => own_apart a1 (u1.own (h.over.alloc o1) (fun q h1 h2 => own_apart h.over h.had (by decide) h1 h2)) (by decide) hk
  refine ⟨((h.slab.alloc o1).upto u1 (fun e => by have := n1 b e; omega)).alloc o2 |>.upto u2 (fun e => by have := n2 b e; omega), ?_, ?_, ?_, ?_, hb, hw⟩
  · rw [List.length_append, hcl_snoc]
    refine u2.own (a1.alloc o2) (fun k hk e => e1 (by rw [e]; simp) k hk e)
  · rw [List.length_append, List.map_append]; exact a2
  · exact (u2.row ((u1.row (h.gone.alloc o1) (fun e => by have := n1 p e; omega)).alloc o2) (fun e => by have := n2 p e; omega))
  · have hs := h.slab.lt
    exact (((h.bel.alloc (by omega) o1).grown g1 (by simp; omega) (fun k hk => by have := n1 k hk; omega)).alloc (by omega) o2).grown g2 (by simp; omega) (fun k hk => by have := n2 k hk; omega)
variable {c0 c1 c2 c3 c4 c7 c11 c15 c16 c17 c18 c19 c20 c21 c22 c23 c24 c25 c26 c27 c28 c29 c30 c31 c32 c33 c34 c35 c36 c37 c38 c39 c40 c41 c42 c43 c44 c45 c46 c47 c48 c49 c50 c51 c52 c53 c54 c55 c56 c57 c58 c59 c60 c61 c62 c63 c64 c65 c66 c67 c68 c69 c70 c71 c72 c73 c74 c75 c76 c77 c78 c79 c80 c81 c82 c83 c84 c85 c86 c87 c88 c89 c90 c91 c92 c93 c94 c95 c96 c97 c98 c99 c100 c101 c102 c103 c104 c105 c106 c107 c108 c109 c110 c111 c112 c113 c114 c115 c116 c117 c118 c119 c120 c121 c122 c123 c124 c125 c126 c127 c128 c129 c130 c131 c132 c133 c134 c135 c136 c137 c138 c139 c140 c141 c142 c143 c144 c145 c146 c147 c148 c149 c150 c151 c152 c153 c154 c155 c156 c157 c158 c159 c160 c161 c162 c163 c164 c165 c166 c167 c168 c169 c170 c171 c172 c173 c174 c175 c176 c177 c178 c179 c180 c181 c182 c183 c184 c185 c186 c187 c188 c189 c190 c191 c192 c193 c194 c195 c196 c197 c198 c199 c200 c201 c202 c203 c204 c205 c206 c207 c208 c209 c210 c211 c212 c213 c214 c215 c216 c217 c218 c219 c220 c221 c222 c223 c224 c225 c226 c227 c228 c229 c230 c231 c232 c233 c234 c235 c236 c237 c238 c239 c240 c241 c242 c243 : Value}

set_option maxRecDepth 100000 in
set_option maxHeartbeats 1000000 in
theorem sw_take {w0 wc : World} {b p n xb k : Nat} {ah : Option Addr} {ch : Nat} {vo : Value} {st : St} {H : List (Nat × Nat)} {O : List Bool} {G : Nat → Bool} {q : Int} {K : Act → World → Prop} {Q' : Exit → Act → World → Prop} {x : ActV} (r : Nat)
    (hO1 : OnceAt w0 wc b p n (.slice ah H.length ch) vo st H O G) (hI : Inv n st H O G k) (hn1 : 1 ≤ n) (hn2 : n ≤ 256) (hk : k < 150)
    (x1 : wc.cell? ⟨xb, 1, none⟩ = some (.int .u8 (x.at_ : Nat))) (hx1 : x.at_ < 256) (hr : r < 2)
    (hK : ∀ (d4 d14 d15 d16 d17 d18 d19 d20 d21 d22 d70 d71 d72 d73 d74 d75 d76 d77 d78 d79 d80 d81 d82 d83 d84 d85 d86 d87 d88 d89 d90 d91 d92 d93 d94 d95 d96 d97 d98 d99 d100 d101 d102 d103 d104 d105 d106 d107 d108 d109 d110 d111 d112 d113 d114 d115 d116 d117 d118 d119 d120 d121 d122 d123 d124 d125 d126 d127 d128 d129 d130 d131 d132 d133 d134 d135 d136 d137 d138 d139 d140 d141 d142 d143 d144 d145 d146 d147 d148 d149 d150 d151 d152 d153 d154 d155 d156 d157 d158 d159 d160 d161 d162 d163 d164 d165 d166 d167 d168 d169 d170 d171 d172 d173 d174 d175 d176 d177 d178 d179 d180 d181 d182 d183 d184 d185 d186 d187 d188 d189 d190 d191 d192 d193 d194 d195 d196 d197 d198 d199 d200 : Value) (vh' vo' : Value) (w' : World) (st' : St) (H' : List (Nat × Nat)) (O' : List Bool) (G' : Nat → Bool), OnceAt w0 w' b p n vh' vo' st' H' O' G' → Inv n st' H' O' G' (k + 1) → K ⟨#[c0, c1, c2, c3, d4, .int .i64 n, .pointer (some ⟨b, 0, none⟩), c7, vh', vo', .slice (some ⟨p, 0, none⟩) n n, c11, .pointer (some ⟨xb, 0, none⟩), .int .i64 q, d14, d15, d16, d17, d18, d19, d20, d21, d22, c23, c24, c25, c26, c27, c28, c29, c30, c31, c32, c33, c34, c35, c36, c37, c38, c39, c40, c41, c42, c43, c44, c45, c46, c47, c48, c49, c50, c51, c52, c53, c54, c55, c56, c57, c58, c59, c60, c61, c62, c63, c64, c65, c66, c67, c68, c69, d70, d71, d72, d73, d74, d75, d76, d77, d78, d79, d80, d81, d82, d83, d84, d85, d86, d87, d88, d89, d90, d91, d92, d93, d94, d95, d96, d97, d98, d99, d100, d101, d102, d103, d104, d105, d106, d107, d108, d109, d110, d111, d112, d113, d114, d115, d116, d117, d118, d119, d120, d121, d122, d123, d124, d125, d126, d127, d128, d129, d130, d131, d132, d133, d134, d135, d136, d137, d138, d139, d140, d141, d142, d143, d144, d145, d146, d147, d148, d149, d150, d151, d152, d153, d154, d155, d156, d157, d158, d159, d160, d161, d162, d163, d164, d165, d166, d167, d168, d169, d170, d171, d172, d173, d174, d175, d176, d177, d178, d179, d180, d181, d182, d183, d184, d185, d186, d187, d188, d189, d190, d191, d192, d193, d194, d195, d196, d197, d198, d199, d200, c201, c202, c203, c204, c205, c206, c207, c208, c209, c210, c211, c212, c213, c214, c215, c216, c217, c218, c219, c220, c221, c222, c223, c224, c225, c226, c227, c228, c229, c230, c231, c232, c233, c234, c235, c236, c237, c238, c239, c240, c241, c242, c243], []⟩ w') : Code.wp Try.prog onceSwitch (Exit.then K Q') ⟨#[c0, c1, c2, c3, c4, .int .i64 n, .pointer (some ⟨b, 0, none⟩), c7, .slice ah H.length ch, vo, .slice (some ⟨p, 0, none⟩) n n, c11, .pointer (some ⟨xb, 0, none⟩), .int .i64 q, .int .u8 r, c15, c16, c17, c18, c19, c20, c21, c22, c23, c24, c25, c26, c27, c28, c29, c30, c31, c32, c33, c34, c35, c36, c37, c38, c39, c40, c41, c42, c43, c44, c45, c46, c47, c48, c49, c50, c51, c52, c53, c54, c55, c56, c57, c58, c59, c60, c61, c62, c63, c64, c65, c66, c67, c68, c69, c70, c71, c72, c73, c74, c75, c76, c77, c78, c79, c80, c81, c82, c83, c84, c85, c86, c87, c88, c89, c90, c91, c92, c93, c94, c95, c96, c97, c98, c99, c100, c101, c102, c103, c104, c105, c106, c107, c108, c109, c110, c111, c112, c113, c114, c115, c116, c117, c118, c119, c120, c121, c122, c123, c124, c125, c126, c127, c128, c129, c130, c131, c132, c133, c134, c135, c136, c137, c138, c139, c140, c141, c142, c143, c144, c145, c146, c147, c148, c149, c150, c151, c152, c153, c154, c155, c156, c157, c158, c159, c160, c161, c162, c163, c164, c165, c166, c167, c168, c169, c170, c171, c172, c173, c174, c175, c176, c177, c178, c179, c180, c181, c182, c183, c184, c185, c186, c187, c188, c189, c190, c191, c192, c193, c194, c195, c196, c197, c198, c199, c200, c201, c202, c203, c204, c205, c206, c207, c208, c209, c210, c211, c212, c213, c214, c215, c216, c217, c218, c219, c220, c221, c222, c223, c224, c225, c226, c227, c228, c229, c230, c231, c232, c233, c234, c235, c236, c237, c238, c239, c240, c241, c242, c243], []⟩ wc := by
  have r2 : (r : Int) < 2 := by omega
  clear hr
  obtain ⟨i0, hi, hz0, hz1, hz2⟩ := info_parts Try.info31
  obtain ⟨i4, hi4, hy0, hy1, hy2⟩ := info_parts Try.info4
  have hmany := hI.many
  have hmanyO : O.length ≤ k := by rw [← hI.same]; exact hI.many
  conv => arg 2; whnf
  cases hf : firstFree st
  · have hc0 := no_free hI hf
    have HF := Lib.hid hf
    clear hf
    go_wp2_with (first
      | (go_at_call 9; refine (OTake_none hO1 HF.out).mono ?_; rintro e w2 ⟨rfl, hO2⟩)
      | (go_at_call 12; refine (OCount0 (hO2.alloc _) hc0).mono ?_; rintro e w3 ⟨rfl, hO3⟩))
    exact hK _ _ _ _ _ _ _ _ _ _ _ _ _ _ _ _ _ _ _ _ _ _ _ _ _ _ _ _ _ _ _ _ _ _ _ _ _ _ _ _ _ _ _ _ _ _ _ _ _ _ _ _ _ _ _ _ _ _ _ _ _ _ _ _ _ _ _ _ _ _ _ _ _ _ _ _ _ _ _ _ _ _ _ _ _ _ _ _ _ _ _ _ _ _ _ _ _ _ _ _ _ _ _ _ _ _ _ _ _ _ _ _ _ _ _ _ _ _ _ _ _ _ _ _ _ _ _ _ _ _ _ _ _ _ _ _ _ _ _ _ _ _ _ _ _ _ _ _  hO3 hI.mono
  · rename_i j
    obtain ⟨hjl, hj0, _⟩ := firstFree_some hf
    rw [hI.len] at hjl
    obtain ⟨hI2, hne, hGj⟩ := hI.take hjl hj0
    have HF := Lib.hid hf
    have HN := Lib.hid hne
    have HG := Lib.hid hGj
    obtain ⟨gj, hgj⟩ : ∃ gj, gj = genOf st j := ⟨_, rfl⟩
    rw [← hgj] at hI2
    have HGJ := Lib.hid hgj
    have H2 := Lib.hid hI2
    clear hf hne hGj hgj hI2 hj0
    go_wp2_with (first
      | (go_at_call 9; refine (OTake_some hO1 HF.out).mono ?_; rw [← HGJ.out]; rintro e w2 ⟨rfl, hO2⟩; have q3 : (w2.alloc (.cells #[.int .i64 (j : Nat), .int .u32 (gj : Nat)] 31)).cell? ⟨p, j, none⟩ = some (.bool false) := (HG.out ▸ (hO2.alloc _).gone.cell hjl)))
    have z0 := new_1 w2 #[.int .i64 (j : Nat), .int .u32 (gj : Nat)] 31 0 (.int .i64 (j : Nat)) rfl
    have z1 := new_1 w2 #[.int .i64 (j : Nat), .int .u32 (gj : Nat)] 31 1 (.int .u32 (gj : Nat)) rfl
    have hO3 := hO2.alloc (.cells #[.int .i64 (j : Nat), .int .u32 (gj : Nat)] 31)
    generalize w2.alloc (.cells #[.int .i64 (j : Nat), .int .u32 (gj : Nat)] 31) = W3 at z0 z1 hO3 ⊢
    generalize w2.heap.size = y at z0 z1 ⊢
    clear hO2 q3
    go_loopw [20] (fun i wi => ∃ l : Nat, l ≤ H.length ∧ i = .int .i64 l ∧ OnceAt w0 wi b p n (.slice ah H.length ch) vo (turn st j 1) H O G ∧ wi.cell? ⟨y, 0, none⟩ = some (.int .i64 (j : Nat)) ∧ wi.cell? ⟨y, 1, none⟩ = some (.int .u32 (gj : Nat)))
      (fun i _ => H.length - (intOf i).toNat)
    case atStart => exact ⟨0, by omega, rfl, hO3, z0, z1⟩
    case round =>
      clear hO3 z0 z1
      obtain ⟨l, hl, rfl, hO3, z0, z1⟩ := hrel
      by_cases hlt : l < H.length
      · obtain ⟨a', c', hv, hHV⟩ := hO3.hadV
        obtain ⟨g, hag, hpg, hcl⟩ := hHV (by omega)
        clear hcl hHV
        simp only [Value.slice.injEq] at hv
        obtain ⟨rfl, _, rfl⟩ := hv
        subst hag
        obtain ⟨y1, y2⟩ := hO3.hadAt l hlt
        have hne := HN.out l hlt
        rw [← HGJ.out] at hne
        generalize hS : (H.getD l (0, 0)).1 = s at y1
        generalize hT : (H.getD l (0, 0)).2 = t at y2
        by_cases es : s = j
        · have et : ((t : Int) == (gj : Int)) = false := by
            rw [beq_eq_false_iff_ne]
            intro e3
            exact hne (Prod.ext (by rw [hS, es]) (by rw [hT]; omega))
          have es' : ((s : Int) == (j : Int)) = true := beq_iff_eq.2 (by omega)
          clear hne hS hT es
          go_wp2_with fail
          go_quiet (fail)
          go_wp2
          go_roundw
          case rel => exact ⟨l + 1, by omega, by go_num, hO3.drewN _, z0, z1⟩
          case measure => simp [intOf]; omega
        · have es' : ((s : Int) == (j : Int)) = false := beq_eq_false_iff_ne.2 (by omega)
          clear hne hS hT es
          go_wp2_with fail
          go_quiet (fail)
          go_wp2
          go_roundw
          case rel => exact ⟨l + 1, by omega, by go_num, hO3.drewN _, z0, z1⟩
          case measure => simp [intOf]; omega
      · clear hl
        go_wp2_with (first
          | (at_builtin; refine wpList_append_own _ rfl (.tmp 120) (.tmp 122) 28 rfl (p + 1) 31 i0 (.agg #[.int .i64 0, .int .u32 0]) 2 16 Try.underlying28 hi hz0 hz1 hz2 rfl (by decide) _ _ _ rfl (hO3.had.alloc _) ⟨wr.heap.size, 0, none⟩ 1 1 [.int .i64 (j : Nat), .int .u32 (gj : Nat)] rfl rfl (pair_new _ _ _ _) (pair_one _ _ _ _) (by unfold maxLen; omega) (by omega) (by have := hO3.gone.lt; simp; omega) ?_; intro v1 w4 hown4 hg4 _; have hw4 := hg4.size; simp only [World.size_alloc] at hw4)
          | (at_builtin; refine wpList_append_own _ rfl (.tmp 124) (.tmp 125) 39 rfl (p + 1) 4 i4 (.bool false) 1 1 Try.underlying39 hi4 hy0 hy1 hy2 rfl (by decide) _ _ _ rfl (((Upto.of_grown hg4).own (hO3.over.alloc _) (fun q h1 h2 => own_apart hO3.over hO3.had (by decide) h1 h2)).alloc _) ⟨w4.heap.size, 0, none⟩ 1 1 [.bool false] rfl rfl (one_new _ _ _) (by intro u hu; simp at hu; subst hu; rfl) (by unfold maxLen; omega) (by omega) (by have := hO3.gone.lt; simp; omega) ?_; intro v2 w5 hown5 hg5 _))
        exact hK _ _ _ _ _ _ _ _ _ _ _ _ _ _ _ _ _ _ _ _ _ _ _ _ _ _ _ _ _ _ _ _ _ _ _ _ _ _ _ _ _ _ _ _ _ _ _ _ _ _ _ _ _ _ _ _ _ _ _ _ _ _ _ _ _ _ _ _ _ _ _ _ _ _ _ _ _ _ _ _ _ _ _ _ _ _ _ _ _ _ _ _ _ _ _ _ _ _ _ _ _ _ _ _ _ _ _ _ _ _ _ _ _ _ _ _ _ _ _ _ _ _ _ _ _ _ _ _ _ _ _ _ _ _ _ _ _ _ _ _ _ _ _ _ _ _ _ _  (OnceAt.two hO3 hown4 hg4 hown5 hg5) H2.out
end Go.Proofs.Ythfmngpocfofnaa
