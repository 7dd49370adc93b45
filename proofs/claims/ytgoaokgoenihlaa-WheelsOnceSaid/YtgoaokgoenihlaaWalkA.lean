/- A wheel's Put, walked. -/
import Derived.Test.YtgoaokgoenihlaaInfo
import Derived.StillTailTactics
import Derived.Deep.RegionHeld3
import Derived.Deep.RegionLaw
namespace Go.Proofs.Ytgoaokgoenihlaa
open Go Go.RowKit Go.Deep Go.Maps

theorem Put_arg (w : World) (x g m : Nat) (vs : Nat → Value) (S : Wh) (a : Hn) (d : Int) (h : WhIn w x g m vs S) (hd : d < 0 ∨ 1099511627776 < d) :
    Calls Try.prog 10 #[.pointer (some ⟨x, 0, none⟩), hv a, .int .i64 d] w (Told (.int .i64 2) w) := by
  have h2 := h.alloc (.cells #[.int .i64 a.s, .int .u32 (a.g : Nat)] 31)
  rcases hd with hd | hd
  · go_enter Try.func10, Try.ntmps10
    go_wp2_with (go_at_call 25; refine (none_no _ _ _ _ _ _ h2).mono ?_; rintro e w' ⟨rfl, rfl⟩)
    go_ret
    exact ⟨rfl, (Upto.refl NoS w).alloc _⟩
  · have hd' : ¬ d < 0 := by omega
    go_enter Try.func10, Try.ntmps10
    go_wp2_with (go_at_call 25; refine (none_no _ _ _ _ _ _ h2).mono ?_; rintro e w' ⟨rfl, rfl⟩)
    go_ret
    exact ⟨rfl, (Upto.refl NoS w).alloc _⟩
set_option maxRecDepth 100000 in
set_option maxHeartbeats 4000000 in
theorem Put_have (w : World) (x g m : Nat) (vs : Nat → Value) (S : Wh) (a : Hn) (d : Nat) (t : Tm) (h : WhIn w x g m vs S) (ha : a.Ok) (hd : d ≤ 1099511627776) (hf : S.find a = some t) :
    Calls Try.prog 10 #[.pointer (some ⟨x, 0, none⟩), hv a, .int .i64 (d : Nat)] w (Told (.int .i64 7) w) := by
  have h2 := h.alloc (.cells #[.int .i64 a.s, .int .u32 (a.g : Nat)] 31)
  have h3 := h2.alloc (.cells #[.int .i64 0, .int .i64 0] 65)
  have c1 := h2.c1
  have c2 := h3.c1
  have hd1 : ¬ (d : Int) < 0 := by omega
  have hd2 : ¬ (1099511627776 : Int) < (d : Int) := by omega
  have l1 := h2.drew.look ha hf
  have l2 := h3.drew.look ha hf
  go_enter Try.func10, Try.ntmps10
  go_wp2_with (go_at_call 25; refine (none_no _ _ _ _ _ _ h2).mono ?_; rintro e w' ⟨rfl, rfl⟩)
  go_region
  all_goals
    go_wp2
    go_ret
    exact ⟨rfl, (((Upto.refl NoS w).alloc _).alloc _).drew⟩

theorem mod_of (S : Wh) (d : Nat) : (S.last ≤ d → (d : Int) % (S.n : Int) = ((plc S.n S.last d : Nat) : Int)) ∧ (d ≤ S.last → (S.last : Int) % (S.n : Int) = ((plc S.n S.last d : Nat) : Int)) := by
  unfold plc
  refine ⟨fun h => ?_, fun h => ?_⟩
  · rw [Nat.max_eq_left (by omega)]; simp
  · rw [Nat.max_eq_right (by omega)]; simp

/-- What Put leaves. -/
def PutPost (x g m q : Nat) (vs : Nat → Value) (S' : Wh) (w : World) (e : Ending) (w' : World) : Prop :=
  e = .returned (.int .i64 0) ∧ ∃ nv, WhIn w' x g m (fun i => if i = q then nv else vs i) S' ∧ Upto (fun k => k = m ∨ k = g ∨ (vs q).ownBlock = some k) w w' ∧ ∀ k, nv.ownBlock = some k → (vs q).ownBlock = some k ∨ w.heap.size ≤ k

theorem drewN_one (W : World) (n : Nat) : ∃ k, W.drew.drewN n = W.drewN k := ⟨1 + n, by unfold World.drew World.drewN; simp [Nat.add_assoc]⟩
/-- Where it stands, as the program reckons it. -/
theorem mod_max (S : Wh) (d : Nat) (hp : 1 ≤ S.n) : ((max d S.last : Nat) : Int) % (S.n : Int) = ((plc S.n S.last d : Nat) : Int) := by unfold plc; simp

set_option maxRecDepth 100000 in
set_option maxHeartbeats 4000000 in
theorem Put_ok (w : World) (x g m q : Nat) (vs : Nat → Value) (S : Wh) (a : Hn) (d : Nat) (h : WhIn w x g m vs S) (ha : a.Ok) (hd : d ≤ 1099511627776) (hf : S.find a = none) (hm : S.E.length < 1000000) (hqp : plc S.n S.last d = q) :
    Calls Try.prog 10 #[.pointer (some ⟨x, 0, none⟩), hv a, .int .i64 (d : Nat)] w (PutPost x g m q vs (S.put a d) w) := by
  have hqn : q < S.n := by rw [← hqp]; exact plc_lt h.ok.pos _ _
  have h2 := h.alloc (.cells #[.int .i64 a.s, .int .u32 (a.g : Nat)] 31)
  have h3 := h2.alloc (.cells #[.int .i64 0, .int .i64 0] 65)
  have c1 := h2.c1
  have c2 := h3.c1
  have hd1 : ¬ (d : Int) < 0 := by omega
  have hd2 : ¬ (1099511627776 : Int) < (d : Int) := by omega
  have l1 := h2.drew.look_no ha hf
  have l2 := h3.drew.look_no ha hf
  have hlast := h.ok.last
  have hpos := h.ok.pos
  have hmost := h.ok.most
  have hmo := mod_of S d
  rw [hqp] at hmo
  have HMO := Lib.hid hmo
  have HQP := Lib.hid hqp
  have hgx := h.mid.gx
  have hmx := h.mid.mx
  have HGM := Lib.hid h.mid.gm
  have hxl := h.lt
  obtain ⟨lk, hlk⟩ := key31 ha
  have HLK := Lib.hid hlk
  have HU : Hid (Upto (fun k => k = m ∨ k = g ∨ (vs q).ownBlock = some k) w _) := Lib.hid (((Upto.refl (fun k => k = m ∨ k = g ∨ (vs q).ownBlock = some k) w).alloc (.cells #[.int .i64 a.s, .int .u32 (a.g : Nat)] 31)).alloc (.cells #[.int .i64 0, .int .i64 0] 65))
  have n0 := new_21 w #[.int .i64 a.s, .int .u32 (a.g : Nat)] #[.int .i64 0, .int .i64 0] 31 65 0 (.int .i64 a.s) rfl
  have n1 := new_21 w #[.int .i64 a.s, .int .u32 (a.g : Nat)] #[.int .i64 0, .int .i64 0] 31 65 1 (.int .u32 (a.g : Nat)) rfl
  have HS : Hid (((w.alloc (.cells #[.int .i64 a.s, .int .u32 (a.g : Nat)] 31)).alloc (.cells #[.int .i64 0, .int .i64 0] 65)).heap.size = w.heap.size + 1 + 1) := Lib.hid (by simp)
  obtain ⟨i0, hi, hz0, hz1, hz2⟩ := info_parts Try.info69
  obtain ⟨ad, cp, hvq, _⟩ := own_slice (h.mid.each q hqn)
  have hal : (S.at q).length ≤ 1000000 := Nat.le_trans (S.at_le q) h.ok.many
  have HF := Lib.hid hf
  have HV := Lib.hid hvq
  have HH := Lib.hid h
  have H3 := Lib.hid h3
  clear hmo hqp hf hvq hlk
  go_enter Try.func10, Try.ntmps10
  go_wp2_with (go_at_call 25; refine (none_no _ _ _ _ _ _ h2).mono ?_; rintro e w' ⟨rfl, rfl⟩)
  go_cut [8] (fun v wr => v = .bool false ∧ wr = ((w.alloc (.cells #[.int .i64 a.s, .int .u32 (a.g : Nat)] 31)).alloc (.cells #[.int .i64 0, .int .i64 0] 65)).drew)
  case first =>
    go_region
    all_goals
      go_wp2_with fail
      go_meet
      case rel => exact ⟨rfl, rfl⟩
  case rest =>
    obtain ⟨rfl, rfl⟩ := hcut
    clear l1 l2 c1 c2 h2 h3
    go_wp2_with fail
    generalize (w.alloc (.cells #[.int .i64 a.s, .int .u32 (a.g : Nat)] 31)).alloc (.cells #[.int .i64 0, .int .i64 0] 65) = W at n0 n1 HS HU H3 ⊢
    have c0 := H3.out.c0
    have c2 := H3.out.c2
    go_cut [9] (fun v wr => v = .int .i64 (q : Nat) ∧ ∃ n, wr = W.drewN n)
    case first =>
      have hmd : ∀ v : Int, (S.last ≤ d ∧ v = (d : Int) % (S.n : Int)) ∨ (d ≤ S.last ∧ v = (S.last : Int) % (S.n : Int)) → v = (q : Nat) := fun v hv => by
        rcases hv with ⟨h1, rfl⟩ | ⟨h1, rfl⟩
        · exact HMO.out.1 h1
        · exact HMO.out.2 h1
      have HMD := Lib.hid hmd
      clear hmd
      go_quiet (fail)
      go_wp2_with fail
      all_goals
        rw [HMD.out (_ % _) (by omega)]
        go_meet
        case rel => first | exact ⟨rfl, drewN_one W _⟩ | exact ⟨rfl, _, rfl⟩
    case rest =>
      obtain ⟨rfl, n, rfl⟩ := hcut
      clear c0 c2
      go_wp2_with fail
      have H4 := H3.out.drewN n
      have n0 : (W.drewN n).drew.cell? ⟨w.heap.size, 0, none⟩ = _ := n0
      have n1 : (W.drewN n).drew.cell? ⟨w.heap.size, 1, none⟩ = _ := n1
      have HU4 := Lib.hid ((HU.out.drewN n).drew)
      have HS4 : Hid ((W.drewN n).drew.heap.size = w.heap.size + 1 + 1) := HS
      replace H4 := H4.drew
      clear HS HU H3
      have k1 := H4.c1
      obtain ⟨w3, hr3, hm3, hu3, hs3, hd3⟩ := H4.mid.mp.store keyed31 Try.underlying59 (by simp [maxLen]; omega) (.agg #[.int .i64 (d : Nat), .int .i64 (q : Nat)]) HLK.out (WhIn.find_no HF.out _ _)
      refine wp_region_still_tail 8 (by kernel_rfl) (by kernel_rfl) ?_
      simp only [List.take_succ_cons, List.take_zero, List.drop_succ_cons, List.drop_zero]
      change wpStill _ _ (W.drewN n).drew _ _ _
      change wpStill _ _ _ (fun a' => wpList _ _ _ _ a' (W.drewN n).drew) _ _
      generalize (W.drewN n).drew = W4 at n0 n1 k1 H4 HU4 HS4 hr3 hu3 hs3 ⊢
      repeat (first | still_step)
      refine wpStill_nil ?_
      go_wp2_with fail
      have hxw4 := H4.lt
      have k0 := hu3.keep H4.c0 (fun e => by have e : x = m := e; omega)
      have k1 := hu3.keep (H4.pc hqn) (fun e => HGM.out (by exact e.symm))
      have m0 := hu3.keep n0 (fun e => by have e : w.heap.size = m := e; omega)
      have m1 := hu3.keep n1 (fun e => by have e : w.heap.size = m := e; omega)
      have hO3 := hu3.own (H4.mid.each q hqn) (fun k hk e => by have := H4.mid.vlt hqn hk; have e : k = m := e; omega)
      have hpl3 := hu3.row H4.mid.pl (fun e => HGM.out (by exact e.symm))
      rw [HV.out] at hO3 k1
      have hs3' : w3.heap.size = w.heap.size + 1 + 1 := hs3.trans HS4.out
      have HM3 := Lib.hid hm3
      have HUU := Lib.hid (HU4.out.trans (hu3.mono (fun _ _ hk => .inl hk)))
      have HPL := Lib.hid hpl3
      have HS3 := Lib.hid hs3'
      have hgl : g < w3.heap.size := by omega
      have hxw : x < w3.heap.size := by omega
      have nx : ¬ (Value.slice ad (S.at q).length cp).ownBlock = some x := fun e => by have := (hO3.lt x e).1; omega
      have ng : ¬ (Value.slice ad (S.at q).length cp).ownBlock = some g := fun e => by have := (hO3.lt g e).1; omega
      have ka0 := keep_alloc k0 (.cells #[.int .i64 (d : Nat), .int .i64 a.s, .int .u32 (a.g : Nat)] 69)
      have ka1 := keep_alloc k1 (.cells #[.int .i64 (d : Nat), .int .i64 a.s, .int .u32 (a.g : Nat)] 69)
      have mb0 := keep_alloc m0 (.cells #[.int .i64 (d : Nat), .int .i64 a.s, .int .u32 (a.g : Nat)] 69)
      have mb1 := keep_alloc m1 (.cells #[.int .i64 (d : Nat), .int .i64 a.s, .int .u32 (a.g : Nat)] 69)
      have kf := (hpl3.alloc (.cells #[.int .i64 (d : Nat), .int .i64 a.s, .int .u32 (a.g : Nat)] 69)).frozen q
      clear hr3 H4 hu3 hm3 hs3 hs3' hd3 hpl3 HU4 HS4 n0 n1 HLK HMO hxw4
      have na : ¬ (Value.slice ad (S.at q).length cp).ownBlock = some w.heap.size := fun e => by have := HH.out.mid.vlt hqn (by rw [HV.out]; exact e); omega
      have hxg : (⟨g, q, none⟩ : Addr).block ≠ (⟨x, 0, none⟩ : Addr).block := fun e => by have e : g = x := e; omega
      have hag0 : (⟨g, q, none⟩ : Addr).block ≠ (⟨w.heap.size, 0, none⟩ : Addr).block := fun e => by have e : g = w.heap.size := e; omega
      have hag1 : (⟨g, q, none⟩ : Addr).block ≠ (⟨w.heap.size, 1, none⟩ : Addr).block := fun e => by have e : g = w.heap.size := e; omega
      have HEND : Hid (∀ gg cap1 w5, w5.ownsRow (x + 1) 69 3 (.slice (some ⟨gg, 0, none⟩) ((S.at q).length + 1) cap1) ((S.at q).length + 1) (tcl (S.at q) ++ tcs ⟨d, a⟩) → ((w3.alloc (.cells #[.int .i64 (d : Nat), .int .i64 a.s, .int .u32 (a.g : Nat)] 69)).drew).grownBy w5 (Value.slice ad (S.at q).length cp).ownBlock → ((Value.slice ad (S.at q).length cp).ownBlock = some gg ∨ gg = w3.heap.size + 1) →
          PutPost x g m q vs (S.put a d) w (.returned (.int .i64 0)) (w5.setCell ⟨g, q, none⟩ (.slice (some ⟨gg, 0, none⟩) ((S.at q).length + 1) cap1))) := Lib.hid (by
        intro gg cap1 w5 hown1 hgrow hat
        have hug := Upto.of_grown hgrow
        have hlen : (S.at q ++ [(⟨d, a⟩ : Tm)]).length = (S.at q).length + 1 := by simp
        have hat' : ∀ k, (Value.slice (some ⟨gg, 0, none⟩) ((S.at q).length + 1) cap1).ownBlock = some k → (vs q).ownBlock = some k ∨ w.heap.size ≤ k := fun k hk => by
          have hk' : gg = k := by simpa [Value.ownBlock] using hk
          subst hk'
          rw [HV.out]
          have := HS3.out
          rcases hat with h1 | h1
          · exact .inl h1
          · right; omega
        have U5 := ((HUU.out.alloc (.cells #[.int .i64 (d : Nat), .int .i64 a.s, .int .u32 (a.g : Nat)] 69)).drew).trans' hug (fun i _ hi => .inr (.inr (by rw [HV.out]; exact hi)))
        refine ⟨rfl, .slice (some ⟨gg, 0, none⟩) ((S.at q).length + 1) cap1, ⟨?_, Wh.put_ok HH.out.ok ha hd HF.out hm⟩, U5.setB (.inr (.inl rfl)) _, hat'⟩
        have hgg : ¬ gg = g := fun e => by
          rcases hat with h1 | h1
          · rw [e] at h1; exact ng h1
          · omega
        have hmm : ¬ (Value.slice ad (S.at q).length cp).ownBlock = some m := fun e => by have := (hO3.lt m e).1; omega
        refine HH.out.mid.turned hqn (U5.setB (.inr (.inl rfl)) _) (fun _ hk => hk) ?_ ?_ ?_ hat' (fun k hk => ?_)
        · exact ((hug.row (HPL.out.alloc _).drew ng).set q _).congr (fun i _ => rfl)
        · have e1 : List.map (ent (S.put a d).n (S.put a d).last) (S.put a d).E = List.map (ent S.n S.last) S.E ++ [(hv a, Value.agg #[Value.int IntKind.i64 (d : Nat), Value.int IntKind.i64 (q : Nat)])] := by
            show List.map (ent S.n S.last) (S.E ++ [(⟨d, a⟩ : Tm)]) = _
            rw [List.map_append]
            show _ ++ [(hv a, spv S.n S.last d)] = _
            unfold spv
            rw [HQP.out]
          rw [e1]
          exact (((HM3.out.alloc _).drew).upto hug hmm).upto ((Upto.refl (fun k => k = g) _).setB rfl _) HGM.out
        · have e1 : (S.put a d).at q = S.at q ++ [⟨d, a⟩] := by rw [Wh.put_at, if_pos HQP.out]
          rw [e1, hlen, tcl_append, tcl_one]
          exact ((Upto.refl (fun k => k = g) _).setB rfl _).own hown1 (fun k hk e => by
            have hk' : gg = k := by simpa [Value.ownBlock] using hk
            exact hgg (hk'.trans e))
        · rw [Wh.put_at, HQP.out, if_neg (fun e => hk e.symm), List.append_nil])
      clear HV HF HH HQP HGM HUU HPL HM3
      refine wp_region_held_drew (S := fun w' => w'.cell? ⟨x, 0, none⟩ = some (.slice (some ⟨g, 0, none⟩) S.n S.n) ∧ w'.cell? ⟨w.heap.size, 0, none⟩ = some (.int .i64 a.s) ∧ w'.cell? ⟨w.heap.size, 1, none⟩ = some (.int .u32 (a.g : Nat))) (by kernel_rfl) ⟨k0, m0, m1⟩ (fun hHeld => ?_)
      refine wpAnyH_take (i := 0) (v := ?_) rfl (by kernel_rfl) (by kernel_rfl) (by kernel_rfl) (fun _ _ _ h => h) (Or.inl ⟨by rfl, ?_⟩) (by assumption) ?_
      rotate_left
      · ((intro w hSw; (try dsimp only at hSw); go_simp); (try with_reducible rfl))
      try simp only [Act.put, List.setIfInBounds_toArray, List.set_cons_zero, List.set_cons_succ]
      refine wpAnyH_take (i := 1) (v := ?_) rfl (by kernel_rfl) (by kernel_rfl) (by kernel_rfl) (fun _ _ _ h => h) (Or.inl ⟨by rfl, ?_⟩) (by assumption) ?_
      rotate_left
      · ((intro w hSw; (try dsimp only at hSw); go_simp); (try with_reducible rfl))
      try simp only [Act.put, List.setIfInBounds_toArray, List.set_cons_zero, List.set_cons_succ]
      refine wpAnyH_take (i := 2) (v := ?_) rfl (by kernel_rfl) (by kernel_rfl) (by kernel_rfl) (fun _ _ _ h => h) (Or.inl ⟨by rfl, ?_⟩) (by assumption) ?_
      rotate_left
      · ((intro w hSw; (try dsimp only at hSw); go_simp); (try with_reducible rfl))
      try simp only [Act.put, List.setIfInBounds_toArray, List.set_cons_zero, List.set_cons_succ]
      refine wpAnyH_take (i := 3) (v := ?_) rfl (by kernel_rfl) (by kernel_rfl) (by kernel_rfl) (fun _ _ _ h => h) (Or.inl ⟨by rfl, ?_⟩) (by assumption) ?_
      rotate_left
      · ((intro w hSw; (try dsimp only at hSw); go_simp); (try with_reducible rfl))
      try simp only [Act.put, List.setIfInBounds_toArray, List.set_cons_zero, List.set_cons_succ]
      refine wpAnyH_take (i := 4) (v := ?_) rfl (by kernel_rfl) (by kernel_rfl) (by kernel_rfl) (fun _ _ _ h => h) (Or.inl ⟨by rfl, ?_⟩) (by assumption) ?_
      rotate_left
      · ((intro w hSw; (try dsimp only at hSw); go_simp); (try with_reducible rfl))
      try simp only [Act.put, List.setIfInBounds_toArray, List.set_cons_zero, List.set_cons_succ]
      refine wpAnyH_take (i := 5) (v := ?_) rfl (by kernel_rfl) (by kernel_rfl) (by kernel_rfl) (fun _ _ _ h => h) (Or.inl ⟨by rfl, ?_⟩) (by assumption) ?_
      rotate_left
      · ((intro w hSw; (try dsimp only at hSw); go_simp); (try with_reducible rfl))
      try simp only [Act.put, List.setIfInBounds_toArray, List.set_cons_zero, List.set_cons_succ]
      refine wpAnyH_take (i := 6) (v := ?_) rfl (by kernel_rfl) (by kernel_rfl) (by kernel_rfl) (fun _ _ _ h => h) (Or.inl ⟨by rfl, ?_⟩) (by assumption) ?_
      rotate_left
      · ((intro w hSw; (try dsimp only at hSw); go_simp); (try with_reducible rfl))
      try simp only [Act.put, List.setIfInBounds_toArray, List.set_cons_zero, List.set_cons_succ]
      refine wpAnyH_take (i := 7) (v := ?_) rfl (by kernel_rfl) (by kernel_rfl) (by kernel_rfl) (fun _ _ _ h => h) (Or.inl ⟨by rfl, ?_⟩) (by assumption) ?_
      rotate_left
      · ((intro w hSw; (try dsimp only at hSw); go_simp); (try with_reducible rfl))
      try simp only [Act.put, List.setIfInBounds_toArray, List.set_cons_zero, List.set_cons_succ]
      refine wpAnyH_take (i := 8) (v := ?_) rfl (by kernel_rfl) (by kernel_rfl) (by kernel_rfl) (fun _ _ _ h => h) (Or.inl ⟨by rfl, ?_⟩) (by assumption) ?_
      rotate_left
      · ((intro w hSw; (try dsimp only at hSw); go_simp); (try with_reducible rfl))
      try simp only [Act.put, List.setIfInBounds_toArray, List.set_cons_zero, List.set_cons_succ]
      refine wpAnyH_take (i := 9) (v := ?_) rfl (by kernel_rfl) (by kernel_rfl) (by kernel_rfl) (fun _ _ _ h => h) (Or.inl ⟨by rfl, ?_⟩) (by assumption) ?_
      rotate_left
      · ((intro w hSw; (try dsimp only at hSw); go_simp); (try with_reducible rfl))
      try simp only [Act.put, List.setIfInBounds_toArray, List.set_cons_zero, List.set_cons_succ]
      refine wpAnyH_take (i := 10) (v := ?_) rfl (by kernel_rfl) (by kernel_rfl) (by kernel_rfl) (fun _ _ _ h => h) (Or.inl ⟨by rfl, ?_⟩) (by assumption) ?_
      rotate_left
      · ((intro w hSw; (try dsimp only at hSw); go_simp); (try with_reducible rfl))
      try simp only [Act.put, List.setIfInBounds_toArray, List.set_cons_zero, List.set_cons_succ]
      refine wpAnyH_take (i := 12) (v := ?_) rfl (by kernel_rfl) (by kernel_rfl) (by kernel_rfl) (fun _ _ _ h => h) (Or.inl ⟨by rfl, ?_⟩) (by assumption) ?_
      rotate_left
      · ((intro w hSw; (try dsimp only at hSw); go_simp); (try with_reducible rfl))
      try simp only [Act.put, List.setIfInBounds_toArray, List.set_cons_zero, List.set_cons_succ]
      refine wpAnyH_take (i := 13) (v := ?_) rfl (by kernel_rfl) (by kernel_rfl) (by kernel_rfl) (fun _ _ _ h => h) (Or.inl ⟨by rfl, ?_⟩) (by assumption) ?_
      rotate_left
      · ((intro w hSw; (try dsimp only at hSw); go_simp); (try with_reducible rfl))
      try simp only [Act.put, List.setIfInBounds_toArray, List.set_cons_zero, List.set_cons_succ]
      refine wpAnyH_take (i := 14) (v := ?_) rfl (by kernel_rfl) (by kernel_rfl) (by kernel_rfl) (fun _ _ _ h => h) (Or.inl ⟨by rfl, ?_⟩) (by assumption) ?_
      rotate_left
      · ((intro w hSw; (try dsimp only at hSw); go_simp); (try with_reducible rfl))
      try simp only [Act.put, List.setIfInBounds_toArray, List.set_cons_zero, List.set_cons_succ]
      refine wpAnyH_ready (rs := [11, 15]) (by kernel_rfl) (by simp) ?_
      refine AllReadyH.cons rfl (fun K hK => ?_) (AllReadyH.cons rfl (fun K hK => ?_) AllReadyH.nil)
      · go_simp
        refine hK.out _ _ hHeld (fun hHeld => ?_)
        clear hK K
        try simp only [Act.put, List.setIfInBounds_toArray, List.set_cons_zero, List.set_cons_succ]
        refine wpAnyH_ready (rs := [15]) (by kernel_rfl) (by simp) ?_
        refine AllReadyH.cons rfl (fun K hK => ?_) AllReadyH.nil
        go_simp
        refine hK.out _ _ ⟨ka0, mb0, mb1⟩ (fun hHeld => ?_)
        clear hK K
        try simp only [Act.put, List.setIfInBounds_toArray, List.set_cons_zero, List.set_cons_succ]
        refine wpAnyH_ready (rs := [16]) (by kernel_rfl) (by simp) ?_
        refine AllReadyH.cons rfl (fun K hK => ?_) AllReadyH.nil
        refine step_append_lies _ (by rfl) _ _ _ (by rfl) (x + 1) 69 i0 _ 3 24 Try.underlying67 hi hz0 hz1 hz2 rfl (by omega) (.slice ad (S.at q).length cp) (S.at q).length (tcl (S.at q)) (by rfl) ((hO3.alloc _).drew) ⟨w3.heap.size, 0, none⟩ 1 1 (tcs ⟨d, a⟩) (by rfl) (by rfl) (World.news_of_block (cs := #[.int .i64 (d : Nat), .int .i64 a.s, .int .u32 (a.g : Nat)]) (t := 69) (fr := (0, 0)) (heap_alloc_new w3 _)) (tcs_one ⟨d, a⟩) (by omega) (by unfold maxLen; omega) (by omega) (by simp; omega) (w3.heap.size + 1) (by simp) ?_
        intro gg cap1 w5 hown1 hgrow hat hlt
        have z2 := (Upto.of_grown hgrow).keep ka1 ng
        have z0 := (Upto.of_grown hgrow).keep ka0 nx
        have y0 := (Upto.of_grown hgrow).keep mb0 na
        have y1 := (Upto.of_grown hgrow).keep mb1 na
        have zf := ((Upto.of_grown hgrow).frozen (p := ⟨g, q, none⟩) (by simp; omega) ng).trans kf
        refine hK.out _ _ ⟨z0, y0, y1⟩ (fun hHeld => ?_)
        clear hK K
        try simp only [Act.put, List.setIfInBounds_toArray, List.set_cons_zero, List.set_cons_succ]
        refine wpAnyH_take (i := 17) (v := ?_) rfl (by kernel_rfl) (by kernel_rfl) (by kernel_rfl) (fun _ _ _ h => h) (Or.inl ⟨by rfl, ?_⟩) (by assumption) ?_
        rotate_left
        · ((intro w hSw; (try dsimp only at hSw); go_simp); (try with_reducible rfl))
        try simp only [Act.put, List.setIfInBounds_toArray, List.set_cons_zero, List.set_cons_succ]
        refine wpAnyH_ready (rs := [18]) (by kernel_rfl) (by simp) ?_
        refine AllReadyH.cons rfl (fun K hK => ?_) AllReadyH.nil
        go_simp
        refine hK.out _ _ ⟨by rw [World.cell?_setCell_far _ _ _ _ hxg]; exact z0, by rw [World.cell?_setCell_far _ _ _ _ hag0]; exact y0, by rw [World.cell?_setCell_far _ _ _ _ hag1]; exact y1⟩ (fun hHeld => ?_)
        clear hK K
        try simp only [Act.put, List.setIfInBounds_toArray, List.set_cons_zero, List.set_cons_succ]
        refine wpAnyH_done (by kernel_rfl) ?_ _
        go_wp2
        go_ret
        exact HEND.out _ _ _ hown1 hgrow hat
      · go_simp
        refine hK.out _ _ ⟨ka0, mb0, mb1⟩ (fun hHeld => ?_)
        clear hK K
        try simp only [Act.put, List.setIfInBounds_toArray, List.set_cons_zero, List.set_cons_succ]
        refine wpAnyH_ready (rs := [11]) (by kernel_rfl) (by simp) ?_
        refine AllReadyH.cons rfl (fun K hK => ?_) AllReadyH.nil
        go_simp
        refine hK.out _ _ hHeld (fun hHeld => ?_)
        clear hK K
        try simp only [Act.put, List.setIfInBounds_toArray, List.set_cons_zero, List.set_cons_succ]
        refine wpAnyH_ready (rs := [16]) (by kernel_rfl) (by simp) ?_
        refine AllReadyH.cons rfl (fun K hK => ?_) AllReadyH.nil
        refine step_append_lies _ (by rfl) _ _ _ (by rfl) (x + 1) 69 i0 _ 3 24 Try.underlying67 hi hz0 hz1 hz2 rfl (by omega) (.slice ad (S.at q).length cp) (S.at q).length (tcl (S.at q)) (by rfl) ((hO3.alloc _).drew) ⟨w3.heap.size, 0, none⟩ 1 1 (tcs ⟨d, a⟩) (by rfl) (by rfl) (World.news_of_block (cs := #[.int .i64 (d : Nat), .int .i64 a.s, .int .u32 (a.g : Nat)]) (t := 69) (fr := (0, 0)) (heap_alloc_new w3 _)) (tcs_one ⟨d, a⟩) (by omega) (by unfold maxLen; omega) (by omega) (by simp; omega) (w3.heap.size + 1) (by simp) ?_
        intro gg cap1 w5 hown1 hgrow hat hlt
        have z2 := (Upto.of_grown hgrow).keep ka1 ng
        have z0 := (Upto.of_grown hgrow).keep ka0 nx
        have y0 := (Upto.of_grown hgrow).keep mb0 na
        have y1 := (Upto.of_grown hgrow).keep mb1 na
        have zf := ((Upto.of_grown hgrow).frozen (p := ⟨g, q, none⟩) (by simp; omega) ng).trans kf
        refine hK.out _ _ ⟨z0, y0, y1⟩ (fun hHeld => ?_)
        clear hK K
        try simp only [Act.put, List.setIfInBounds_toArray, List.set_cons_zero, List.set_cons_succ]
        refine wpAnyH_take (i := 17) (v := ?_) rfl (by kernel_rfl) (by kernel_rfl) (by kernel_rfl) (fun _ _ _ h => h) (Or.inl ⟨by rfl, ?_⟩) (by assumption) ?_
        rotate_left
        · ((intro w hSw; (try dsimp only at hSw); go_simp); (try with_reducible rfl))
        try simp only [Act.put, List.setIfInBounds_toArray, List.set_cons_zero, List.set_cons_succ]
        refine wpAnyH_ready (rs := [18]) (by kernel_rfl) (by simp) ?_
        refine AllReadyH.cons rfl (fun K hK => ?_) AllReadyH.nil
        go_simp
        refine hK.out _ _ ⟨by rw [World.cell?_setCell_far _ _ _ _ hxg]; exact z0, by rw [World.cell?_setCell_far _ _ _ _ hag0]; exact y0, by rw [World.cell?_setCell_far _ _ _ _ hag1]; exact y1⟩ (fun hHeld => ?_)
        clear hK K
        try simp only [Act.put, List.setIfInBounds_toArray, List.set_cons_zero, List.set_cons_succ]
        refine wpAnyH_done (by kernel_rfl) ?_ _
        go_wp2
        go_ret
        exact HEND.out _ _ _ hown1 hgrow hat
end Go.Proofs.Ytgoaokgoenihlaa
