/- A wheel's Cut, walked. -/
import Derived.Test.YtgoaokgoenihlaaWalkE
import Derived.StillTailTactics
import Derived.Deep.RegionHeld3
namespace Go.Proofs.Ytgoaokgoenihlaa
open Go Go.RowKit Go.Deep Go.Maps

set_option maxRecDepth 100000 in
set_option maxHeartbeats 2000000 in
theorem Cut_no (w : World) (x g m : Nat) (vs : Nat → Value) (S : Wh) (a : Hn) (h : WhIn w x g m vs S) (ha : a.Ok) (hf : S.find a = none) :
    Calls Try.prog 15 #[.pointer (some ⟨x, 0, none⟩), hv a] w (Told (.bool false) w) := by
  have h2 := h.alloc (.cells #[.int .i64 a.s, .int .u32 (a.g : Nat)] 31)
  have h3 := h2.alloc (.cells #[.int .i64 0, .int .i64 0] 65)
  have c1 := h2.c1
  have c2 := h3.c1
  have l1 := h2.drew.look_no ha hf
  have l2 := h3.drew.look_no ha hf
  go_enter Try.func15, Try.ntmps15
  go_wp2_with (go_at_call 25; refine (none_no _ _ _ _ _ _ h2).mono ?_; rintro e w' ⟨rfl, rfl⟩)
  go_region
  all_goals
    go_wp2
    go_ret
    exact ⟨rfl, (((Upto.refl NoS w).alloc _).alloc _).drew⟩

/-- What lies in memory behind Cut's look-up. -/
structure CutR (w wr : World) (a : Hn) (d p : Nat) : Prop where
  u : Upto NoS w wr
  s : wr.heap.size = w.heap.size + 2
  a0 : wr.cell? ⟨w.heap.size, 0, none⟩ = some (.int .i64 a.s)
  a1 : wr.cell? ⟨w.heap.size, 1, none⟩ = some (.int .u32 (a.g : Nat))
  p1 : wr.cell? ⟨w.heap.size + 1, 1, none⟩ = some (.int .i64 (p : Nat))
/-- What Cut leaves. -/
def CutPost (x g m q : Nat) (vs : Nat → Value) (S' : Wh) (w : World) (e : Ending) (w' : World) : Prop :=
  e = .returned (.bool true) ∧ ∃ nv, WhIn w' x g m (fun i => if i = q then nv else vs i) S' ∧ Upto (fun k => k = m ∨ k = g ∨ (vs q).ownBlock = some k) w w' ∧ nv.ownBlock = (vs q).ownBlock

theorem nodup_inj : ∀ {L : List Tm}, (L.map Tm.h).Nodup → ∀ {u t : Tm}, u ∈ L → t ∈ L → u.h = t.h → u = t
  | [], _, _, _, hu, _, _ => by simp at hu
  | a :: l, hn, u, t, hu, ht, e => by
    rw [List.map_cons, List.nodup_cons] at hn
    rcases List.mem_cons.1 hu with rfl | hu' <;> rcases List.mem_cons.1 ht with rfl | ht'
    · rfl
    · exact (hn.1 (by rw [e]; exact List.mem_map_of_mem ht')).elim
    · exact (hn.1 (by rw [← e]; exact List.mem_map_of_mem hu')).elim
    · exact nodup_inj hn.2 hu' ht' e
/-- A map's entry, and all others. -/
theorem cut_parts {S : Wh} (hn : (S.E.map Tm.h).Nodup) {a : Hn} {t : Tm} (hf : S.find a = some t) (n last : Nat) :
    ∃ L1 L2, S.E.map (ent n last) = L1 ++ (hv a, spv n last t.d) :: L2 ∧ (S.cut a).E.map (ent n last) = L1 ++ L2 := by
  obtain ⟨ht, hta⟩ := Wh.find_mem hf
  obtain ⟨E1, E2, hE⟩ := List.append_of_mem ht
  refine ⟨E1.map (ent n last), E2.map (ent n last), ?_, ?_⟩
  · rw [hE, ← hta]; simp [ent]
  · rw [hE, List.map_append, List.map_cons, List.nodup_append] at hn
    obtain ⟨_, h2, h3⟩ := hn
    rw [List.nodup_cons] at h2
    have e1 : E1.filter (fun t => !(t.h == a)) = E1 := List.filter_eq_self.2 fun u hu => by
      have := h3 u.h (List.mem_map_of_mem hu) t.h (List.mem_cons_self)
      rw [hta] at this
      simpa using this
    have e2 : E2.filter (fun t => !(t.h == a)) = E2 := List.filter_eq_self.2 fun u hu => by
      have : ¬ u.h = a := fun e => h2.1 (by rw [hta, ← e]; exact List.mem_map_of_mem hu)
      simpa using this
    show ((S.E.filter fun t => !(t.h == a)).map (ent n last)) = _
    rw [hE, List.filter_append, e1, List.filter_cons]
    simp [hta, e2]

set_option maxRecDepth 100000 in
set_option maxHeartbeats 4000000 in
theorem Cut_yes (w : World) (x g m q : Nat) (vs : Nat → Value) (S : Wh) (a : Hn) (t : Tm) (h : WhIn w x g m vs S) (ha : a.Ok) (hf : S.find a = some t) (hqp : plc S.n S.last t.d = q) :
    Calls Try.prog 15 #[.pointer (some ⟨x, 0, none⟩), hv a] w (CutPost x g m q vs (S.cut a) w) := by
  have h2 := h.alloc (.cells #[.int .i64 a.s, .int .u32 (a.g : Nat)] 31)
  have h3 := h2.alloc (.cells #[.int .i64 0, .int .i64 0] 65)
  have c1 := h2.c1
  have c2 := h3.c1
  have l1 := h2.drew.look ha hf
  have l2 := h3.drew.look ha hf
  have n0 := new_21 w #[.int .i64 a.s, .int .u32 (a.g : Nat)] #[.int .i64 0, .int .i64 0] 31 65 0 (.int .i64 a.s) rfl
  have n1 := new_21 w #[.int .i64 a.s, .int .u32 (a.g : Nat)] #[.int .i64 0, .int .i64 0] 31 65 1 (.int .u32 (a.g : Nat)) rfl
  go_enter Try.func15, Try.ntmps15
  go_wp2_with (go_at_call 25; refine (none_no _ _ _ _ _ _ h2).mono ?_; rintro e w' ⟨rfl, rfl⟩)
  go_cut [5, 6] (fun v5 v6 wr => v5 = .pointer (some ⟨w.heap.size + 1, 0, none⟩) ∧ v6 = .bool true ∧ CutR w wr a t.d q)
  case first =>
    go_region
    all_goals
      go_wp2_with fail
      go_meet
    all_goals exact ⟨rfl, rfl, ⟨(((Upto.refl NoS w).alloc _).alloc _).drew, by simp, new_21 w #[.int .i64 a.s, .int .u32 (a.g : Nat)] #[.int .i64 (t.d : Nat), .int .i64 (q : Nat)] 31 65 0 _ rfl, new_21 w #[.int .i64 a.s, .int .u32 (a.g : Nat)] #[.int .i64 (t.d : Nat), .int .i64 (q : Nat)] 31 65 1 _ rfl, new_22 w #[.int .i64 a.s, .int .u32 (a.g : Nat)] #[.int .i64 (t.d : Nat), .int .i64 (q : Nat)] 31 65 1 _ rfl⟩⟩
  case rest =>
    obtain ⟨rfl, rfl, hR⟩ := hcut
    clear l1 l2 c1 c2 h2 h3 n0 n1
    go_wp2_with fail
    have hqn : q < S.n := by rw [← hqp]; exact plc_lt h.ok.pos _ _
    have hgx := h.mid.gx
    have hmx := h.mid.mx
    have hxl := h.lt
    have hmg := h.mid.gm
    have H4 := (h.upto hR.u).drew
    obtain ⟨L1, L2, hL, hL'⟩ := cut_parts h.ok.nodup hf S.n S.last
    obtain ⟨lk, hlk⟩ := key31 ha
    obtain ⟨w3, hr3, hm3, hu3, hs3, _⟩ := H4.mid.mp.drop (ty := 0) keyed31 Try.underlying59 hlk hL
    have k1 := H4.c1
    have n0 : wc.drew.cell? ⟨w.heap.size, 0, none⟩ = _ := hR.a0
    have n1 : wc.drew.cell? ⟨w.heap.size, 1, none⟩ = _ := hR.a1
    have p1 : wc.drew.cell? ⟨w.heap.size + 1, 1, none⟩ = _ := hR.p1
    have hu4 : Upto NoS w wc.drew := hR.u.drew
    have hs4 : wc.drew.heap.size = w.heap.size + 2 := hR.s
    refine wp_region_still_tail 5 (by kernel_rfl) (by kernel_rfl) ?_
    simp only [List.take_succ_cons, List.take_zero, List.drop_succ_cons, List.drop_zero]
    change wpStill _ _ wc.drew _ _ _
    change wpStill _ _ _ (fun a' => wpList _ _ _ _ a' wc.drew) _ _
    clear hR
    generalize wc.drew = W4 at n0 n1 p1 k1 H4 hu4 hs4 hr3 hu3 hs3 ⊢
    have HH := Lib.hid h
    have HHF := Lib.hid hf
    have HQP := Lib.hid hqp
    have HM3 := Lib.hid hm3
    have HL' := Lib.hid hL'
    have HMG := Lib.hid hmg
    clear hlk hL hm3 hL' h hf hqp hmg
    repeat (first | still_step)
    refine wpStill_nil ?_
    go_wp2_with fail
    have hU3 : Upto (fun k => k = m) w w3 := (hu4.mono (fun _ _ h => h.elim)).trans hu3
    have hs3' : w3.heap.size = w.heap.size + 2 := hs3.trans hs4
    have k0 := hu3.keep H4.c0 (fun e => by have e : x = m := e; omega)
    have k1 := hu3.keep (H4.pc hqn) (fun e => HMG.out (by exact e.symm))
    have m0 := hu3.keep n0 (fun e => by have e : w.heap.size = m := e; omega)
    have m1 := hu3.keep n1 (fun e => by have e : w.heap.size = m := e; omega)
    have p1' := hu3.keep p1 (fun e => by have e : w.heap.size + 1 = m := e; omega)
    have hpl3 := hu3.row H4.mid.pl (fun e => HMG.out (by exact e.symm))
    have hO3 := hu3.own (H4.mid.each q hqn) (fun k hk e => by have := H4.mid.vlt hqn hk; have e : k = m := e; omega)
    have hI : CutI w.heap.size a [] NoS w3.drew := ⟨rfl, m0, m1⟩
    have hqlt : ∀ q', (vs q).ownBlock = some q' → q' < w.heap.size := fun q' hq' => (HH.out.mid.vlt hqn hq').2
    have hD := DeleteC w3.drew (x + 1) w.heap.size (vs q) (S.at q) w.heap.size (CutI w.heap.size a) (fun t => t.h == a) NoS
      (fun q' hq' => cutKeeps _ _ _ _ (by have := hqlt q' hq'; omega)) (cutKeeps0 _ _) hI hO3.drew (Nat.le_trans (S.at_le q) HH.out.ok.many) hqlt
      (fun T F w' t _ _ hI' => closure30 _ _ T F w' t hI')
    obtain ⟨ad, cp, hvq, _⟩ := own_slice (HH.out.mid.each q hqn)
    rw [hvq] at hD k1
    have hgS : ¬ ((Value.slice ad (S.at q).length cp).ownBlock = some g ∨ NoS g) := by
      rintro (e | e)
      · have := HH.out.mid.vlt hqn (by rw [hvq]; exact e); omega
      · exact e
    have hxS : ¬ ((Value.slice ad (S.at q).length cp).ownBlock = some x ∨ NoS x) := by
      rintro (e | e)
      · have := HH.out.mid.vlt hqn (by rw [hvq]; exact e); omega
      · exact e
    have hpS : ¬ ((Value.slice ad (S.at q).length cp).ownBlock = some (w.heap.size + 1) ∨ NoS (w.heap.size + 1)) := by
      rintro (e | e)
      · have := hqlt _ (by rw [hvq]; exact e); omega
      · exact e
    have fg := hpl3.frozen q
    have hxg : (⟨g, q, none⟩ : Addr).block ≠ (⟨x, 0, none⟩ : Addr).block := fun e => by have e : g = x := e; omega
    have hpg : (⟨g, q, none⟩ : Addr).block ≠ (⟨w.heap.size + 1, 1, none⟩ : Addr).block := fun e => by have e : g = w.heap.size + 1 := e; omega
    have hgl : g < w3.heap.size := by omega
    have HEND : Hid (∀ w5 v', w5.ownsRow (x + 1) 69 3 v' ((S.at q).filter fun t => !(t.h == a)).length (tcl ((S.at q).filter fun t => !(t.h == a))) → v'.ownBlock = (Value.slice ad (S.at q).length cp).ownBlock →
        Upto (fun k => (Value.slice ad (S.at q).length cp).ownBlock = some k ∨ NoS k) w3.drew w5 → CutPost x g m q vs (S.cut a) w (.returned (.bool true)) (w5.setCell ⟨g, q, none⟩ v')) := Lib.hid (by
      intro w5 v' ho5 hob5 hu5
      have U5 : Upto (fun k => k = m ∨ k = g ∨ (vs q).ownBlock = some k) w w5 := (hU3.drew.mono (fun _ _ h => .inl h)).trans' hu5 (fun k hk hS => by
        rcases hS with e | e
        · right; right; rw [hvq]; exact e
        · exact e.elim)
      have U6 := U5.setB (b := g) (o := q) (.inr (.inl rfl)) v'
      have hpl5 := hu5.row hpl3.drew hgS
      refine ⟨rfl, v', ⟨?_, Wh.cut_ok HH.out.ok a⟩, U6, hob5.trans (by rw [hvq])⟩
      have hmS : ¬ ((Value.slice ad (S.at q).length cp).ownBlock = some m ∨ NoS m) := by
        rintro (e | e)
        · have := HH.out.mid.vlt hqn (by rw [hvq]; exact e); omega
        · exact e
      refine HH.out.mid.turned hqn U6 (fun k hk => hk) ((hpl5.set q v').congr (fun i _ => rfl)) ?_ ?_ (fun k hk => .inl (by rw [hvq, ← hob5]; exact hk)) (fun k hk => ?_)
      · show MapAt _ _ _ _ ((S.cut a).E.map (ent S.n S.last))
        rw [HL'.out]
        exact ((HM3.out.drew).upto hu5 hmS).upto ((Upto.refl (fun k => k = g) _).setB rfl _) HMG.out
      · rw [Wh.cut_at]
        refine ((Upto.refl (fun k => k = g) _).setB rfl _).own ho5 (fun k hk e => ?_)
        have e : k = g := e
        rw [hob5, ← hvq, e] at hk
        have := HH.out.mid.vlt hqn hk; omega
      · rw [Wh.cut_at]
        refine List.filter_eq_self.2 fun u hu => ?_
        have : ¬ u.h = a := fun e => by
          obtain ⟨hu1, hu2⟩ := List.mem_filter.1 hu
          obtain ⟨ht, hta⟩ := Wh.find_mem HHF.out
          have hut : u = t := by
            refine nodup_inj HH.out.ok.nodup hu1 ht (e.trans hta.symm)
          subst hut
          simp only [beq_iff_eq] at hu2
          exact hk (hu2.symm.trans HQP.out)
        simpa using this)
    have HD := Lib.hid hD
    have HV := Lib.hid hvq
    clear hI hD hO3 hpl3 HM3 HMG hvq HL' hu3 hu4 hU3 hs3 hs4 hs3' H4 m0 m1 n0 n1 p1 hr3 hqlt HHF HQP
    refine wp_region_held_drew (S := fun w' => w'.cell? ⟨x, 0, none⟩ = some (.slice (some ⟨g, 0, none⟩) S.n S.n) ∧ w'.cell? ⟨w.heap.size + 1, 1, none⟩ = some (.int .i64 (q : Nat))) (by kernel_rfl) ⟨k0, p1'⟩ (fun hHeld => ?_)
    refine wpAnyH_take (i := 0) (v := ?_) rfl (by kernel_rfl) (by kernel_rfl) (by kernel_rfl) (fun _ _ _ h => h) (Or.inl ⟨by rfl, ?_⟩) (by assumption) ?_
    rotate_left
    · ((intro w hSw; (try dsimp only at hSw); go_simp); (try with_reducible rfl))
    try simp only [Act.put, List.setIfInBounds_toArray, List.set_cons_zero, List.set_cons_succ]
    refine wpAnyH_take (i := 1) (v := ?_) rfl (by kernel_rfl) (by kernel_rfl) (by kernel_rfl) (fun _ _ _ h => h) (Or.inl ⟨by rfl, ?_⟩) (by assumption) ?_
    rotate_left
    · ((intro w hSw; (try dsimp only at hSw); go_simp); (try with_reducible rfl))
    try simp only [Act.put, List.setIfInBounds_toArray, List.set_cons_zero, List.set_cons_succ]
    refine wpAnyH_take (i := 2) (v := ?_) rfl (by kernel_rfl) (by kernel_rfl) (by kernel_rfl) (fun _ _ _ h => h) (Or.inl ⟨by rfl, ?_⟩) (by assumption) ?_
    rotate_left
    · ((intro w hSw; (try dsimp only at hSw); go_simp); (try with_reducible rfl))
    try simp only [Act.put, List.setIfInBounds_toArray, List.set_cons_zero, List.set_cons_succ]
    refine wpAnyH_take (i := 3) (v := ?_) rfl (by kernel_rfl) (by kernel_rfl) (by kernel_rfl) (fun _ _ _ h => h) (Or.inl ⟨by rfl, ?_⟩) (by assumption) ?_
    rotate_left
    · ((intro w hSw; (try dsimp only at hSw); go_simp); (try with_reducible rfl))
    try simp only [Act.put, List.setIfInBounds_toArray, List.set_cons_zero, List.set_cons_succ]
    refine wpAnyH_take (i := 4) (v := ?_) rfl (by kernel_rfl) (by kernel_rfl) (by kernel_rfl) (fun _ _ _ h => h) (Or.inl ⟨by rfl, ?_⟩) (by assumption) ?_
    rotate_left
    · ((intro w hSw; (try dsimp only at hSw); go_simp); (try with_reducible rfl))
    try simp only [Act.put, List.setIfInBounds_toArray, List.set_cons_zero, List.set_cons_succ]
    refine wpAnyH_take (i := 5) (v := ?_) rfl (by kernel_rfl) (by kernel_rfl) (by kernel_rfl) (fun _ _ _ h => h) (Or.inl ⟨by rfl, ?_⟩) (by assumption) ?_
    rotate_left
    · ((intro w hSw; (try dsimp only at hSw); go_simp); (try with_reducible rfl))
    try simp only [Act.put, List.setIfInBounds_toArray, List.set_cons_zero, List.set_cons_succ]
    refine wpAnyH_take (i := 6) (v := ?_) rfl (by kernel_rfl) (by kernel_rfl) (by kernel_rfl) (fun _ _ _ h => h) (Or.inl ⟨by rfl, ?_⟩) (by assumption) ?_
    rotate_left
    · ((intro w hSw; (try dsimp only at hSw); go_simp); (try with_reducible rfl))
    try simp only [Act.put, List.setIfInBounds_toArray, List.set_cons_zero, List.set_cons_succ]
    refine wpAnyH_take (i := 7) (v := ?_) rfl (by kernel_rfl) (by kernel_rfl) (by kernel_rfl) (fun _ _ _ h => h) (Or.inl ⟨by rfl, ?_⟩) (by assumption) ?_
    rotate_left
    · ((intro w hSw; (try dsimp only at hSw); go_simp); (try with_reducible rfl))
    try simp only [Act.put, List.setIfInBounds_toArray, List.set_cons_zero, List.set_cons_succ]
    refine wpAnyH_take (i := 8) (v := ?_) rfl (by kernel_rfl) (by kernel_rfl) (by kernel_rfl) (fun _ _ _ h => h) (Or.inl ⟨by rfl, ?_⟩) (by assumption) ?_
    rotate_left
    · ((intro w hSw; (try dsimp only at hSw); go_simp); (try with_reducible rfl))
    try simp only [Act.put, List.setIfInBounds_toArray, List.set_cons_zero, List.set_cons_succ]
    refine wpAnyH_take (i := 9) (v := ?_) rfl (by kernel_rfl) (by kernel_rfl) (by kernel_rfl) (fun _ _ _ h => h) (Or.inl ⟨by rfl, ?_⟩) (by assumption) ?_
    rotate_left
    · ((intro w hSw; (try dsimp only at hSw); go_simp); (try with_reducible rfl))
    try simp only [Act.put, List.setIfInBounds_toArray, List.set_cons_zero, List.set_cons_succ]
    refine wpAnyH_take (i := 10) (v := ?_) rfl (by kernel_rfl) (by kernel_rfl) (by kernel_rfl) (fun _ _ _ h => h) (Or.inl ⟨by rfl, ?_⟩) (by assumption) ?_
    rotate_left
    · ((intro w hSw; (try dsimp only at hSw); go_simp); (try with_reducible rfl))
    try simp only [Act.put, List.setIfInBounds_toArray, List.set_cons_zero, List.set_cons_succ]
    refine wpAnyH_take (i := 11) (v := ?_) rfl (by kernel_rfl) (by kernel_rfl) (by kernel_rfl) (fun _ _ _ h => h) (Or.inl ⟨by rfl, ?_⟩) (by assumption) ?_
    rotate_left
    · ((intro w hSw; (try dsimp only at hSw); go_simp); (try with_reducible rfl))
    try simp only [Act.put, List.setIfInBounds_toArray, List.set_cons_zero, List.set_cons_succ]
    refine wpAnyH_take (i := 12) (v := ?_) rfl (by kernel_rfl) (by kernel_rfl) (by kernel_rfl) (fun _ _ _ h => h) (Or.inl ⟨by rfl, ?_⟩) (by assumption) ?_
    rotate_left
    · ((intro w hSw; (try dsimp only at hSw); go_simp); (try with_reducible rfl))
    try simp only [Act.put, List.setIfInBounds_toArray, List.set_cons_zero, List.set_cons_succ]
    refine wpAnyH_take (i := 14) (v := ?_) rfl (by kernel_rfl) (by kernel_rfl) (by kernel_rfl) (fun _ _ _ h => h) (Or.inl ⟨by rfl, ?_⟩) (by assumption) ?_
    rotate_left
    · ((intro w hSw; (try dsimp only at hSw); go_simp); (try with_reducible rfl))
    try simp only [Act.put, List.setIfInBounds_toArray, List.set_cons_zero, List.set_cons_succ]
    refine wpAnyH_ready (rs := [13]) (by kernel_rfl) (by simp) ?_
    refine AllReadyH.cons rfl (fun K hK => ?_) AllReadyH.nil
    go_simp
    refine hK.out _ _ hHeld (fun hHeld => ?_)
    clear hK K
    try simp only [Act.put, List.setIfInBounds_toArray, List.set_cons_zero, List.set_cons_succ]
    refine wpAnyH_ready (rs := [15]) (by kernel_rfl) (by simp) ?_
    refine AllReadyH.cons rfl (fun K hK => ?_) AllReadyH.nil
    go_simp
    go_at_call 29
    refine HD.out.mono ?_
    rintro e w5 ⟨v', rfl, hown5, hob5, ⟨F5, _, hf5⟩, hu5⟩
    obtain ⟨a5, c5, rfl, _⟩ := own_slice hown5
    have z0 := hu5.keep (w := w3.drew) k0 hxS
    have z1 := hu5.keep (w := w3.drew) k1 hgS
    have z2 := hu5.keep (w := w3.drew) p1' hpS
    have zf := (hu5.frozen (p := ⟨g, q, none⟩) hgl hgS).trans fg
    go_wp2_with fail
    refine hK.out _ _ ⟨z0, z2⟩ (fun hHeld => ?_)
    clear hK K
    try simp only [Act.put, List.setIfInBounds_toArray, List.set_cons_zero, List.set_cons_succ]
    refine wpAnyH_take (i := 16) (v := ?_) rfl (by kernel_rfl) (by kernel_rfl) (by kernel_rfl) (fun _ _ _ h => h) (Or.inl ⟨by rfl, ?_⟩) (by assumption) ?_
    rotate_left
    · ((intro w hSw; (try dsimp only at hSw); go_simp); (try with_reducible rfl))
    try simp only [Act.put, List.setIfInBounds_toArray, List.set_cons_zero, List.set_cons_succ]
    refine wpAnyH_ready (rs := [17]) (by kernel_rfl) (by simp) ?_
    refine AllReadyH.cons rfl (fun K hK => ?_) AllReadyH.nil
    go_simp
    refine hK.out _ _ ⟨by rw [World.cell?_setCell_far _ _ _ _ hxg]; exact z0, by rw [World.cell?_setCell_far _ _ _ _ hpg]; exact z2⟩ (fun hHeld => ?_)
    clear hK K
    try simp only [Act.put, List.setIfInBounds_toArray, List.set_cons_zero, List.set_cons_succ]
    refine wpAnyH_done (by kernel_rfl) ?_ _
    go_wp2
    go_ret
    exact HEND.out _ _ hown5 hob5 hu5
end Go.Proofs.Ytgoaokgoenihlaa
