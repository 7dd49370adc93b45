/- A wheel's Turn, walked. -/
import Derived.Test.YtgoaokgoenihlaaWalkG
namespace Go.Proofs.Ytgoaokgoenihlaa
open Go Go.RowKit Go.Deep Go.Maps

/-- What Turn leaves. -/
def TurnPost (x g m now : Nat) (vs : Nat → Value) (S : Wh) (w : World) (e : Ending) (w' : World) : Prop :=
  ∃ vo vs', e = .returned (.tuple #[vo, .int .i64 0]) ∧ w'.ownsRow w.heap.size 31 2 vo (S.told now).length (hcl ((S.told now).map Tm.h)) ∧
    WhIn w' x g m vs' (S.turn now) ∧ Upto (WhS x g m vs S.n) w w' ∧ ∀ i, i < S.n → (vs' i).ownBlock = (vs i).ownBlock

/-- The first loop's state: j places have been looked at. -/
def L1 (w : World) (x g m now : Nat) (vs : Nat → Value) (S : Wh) (j : Nat) (vl : Value) (wr : World) : Prop :=
  wr.ownsRow w.heap.size 69 3 vl (S.some now j).length (tcl (S.some now j)) ∧ Upto (WhS x g m vs S.n) w wr ∧
    ∃ vj, WhMid wr x g m vj S.n S.last (S.mid now j) (S.E.map (ent S.n S.last)) ∧ ∀ i, i < S.n → (vj i).ownBlock = (vs i).ownBlock
/-- The second loop's: j have been told. -/
def L2 (w : World) (x g m now : Nat) (vs vj : Nat → Value) (S : Wh) (vl : Value) (j : Nat) (vo : Value) (wr : World) : Prop :=
  wr.ownsRow w.heap.size 69 3 vl (S.told now).length (tcl (S.told now)) ∧ Upto (WhS x g m vs S.n) w wr ∧
    WhMid wr x g m vj S.n now (S.turn now).at ((S.left (S.told now) j).map (ent S.n S.last)) ∧
    wr.ownsRow w.heap.size 31 2 vo j (hcl (((S.told now).take j).map Tm.h))

/-- Only the map has turned. -/
theorem WhMid.setMap {w w' : World} {x g m : Nat} {vs : Nat → Value} {n last : Nat} {pf : Nat → List Tm} {L L' : List (Value × Value)} (h : WhMid w x g m vs n last pf L) (hu : Upto (fun k => k = m) w w') (hm : MapAt Try.prog 31 w' m L') : WhMid w' x g m vs n last pf L' := by
  have hmx := h.mx
  have hgm := h.gm
  exact ⟨hu.row h.row (fun e => by have e : x = m := e; omega), hu.row h.pl (fun e => hgm (by exact e.symm)), fun k hk => hu.own (h.each k hk) (fun b hb e => by have := h.vlt hk hb; have e : b = m := e; omega), h.apart, hm, h.gx, h.mx⟩
theorem mod_q (S : Wh) (j : Nat) : (((S.last : Nat) : Int) + (j : Nat)) % (S.n : Int) = (((S.last + j) % S.n : Nat) : Int) := by simp

theorem L1.next {w wr w1 w2 : World} {x g m now j q : Nat} {vs vj : Nat → Value} {S : Wh} {vl nv vl' : Value} {T : List Tm} (hS : S.Ok) (hw : WhIn w x g m vs S) (hq : (S.last + j) % S.n = q) (hqn : q < S.n) (hjn : j < S.n)
    (hU : Upto (WhS x g m vs S.n) w wr) (hb : ∀ i, i < S.n → (vj i).ownBlock = (vs i).ownBlock)
    (hM : WhMid w1 x g m (fun i => if i = q then nv else vj i) S.n S.last (fun k => if k = q then (S.mid now j q).filter (fun t => !decide (t.d ≤ now)) else S.mid now j k) (S.E.map (ent S.n S.last)))
    (hu : Upto (fun k => k = g ∨ (vj q).ownBlock = some k) wr w1) (hnb : nv.ownBlock = (vj q).ownBlock)
    (hT : (S.mid now j q).filter (fun t => decide (t.d ≤ now)) = T)
    (ho : w2.ownsRow w.heap.size 69 3 vl' ((S.some now j).length + T.length) (tcl (S.some now j) ++ tcl T)) (hg : Upto (fun k => vl.ownBlock = some k) w1 w2) (hvl : ∀ k, vl.ownBlock = some k → w.heap.size ≤ k) :
    L1 w x g m now vs S (j + 1) vl' w2 := by
  have e1 : S.mid now j q = S.at q := by rw [← hq]; exact Wh.mid_new S hjn
  have e2 : S.some now (j + 1) = S.some now j ++ T := by rw [Wh.some_succ, hq, ← hT, e1]
  have hpf : (fun k => if k = q then (S.mid now j q).filter (fun t => !decide (t.d ≤ now)) else S.mid now j k) = S.mid now (j + 1) := by
    funext k
    by_cases h : k = q
    · subst h
      rw [if_pos rfl, e1, ← hq, Wh.mid_succ]
    · rw [if_neg h, Wh.mid_other S (by rw [hq]; exact h)]
  rw [hpf] at hM
  have hvj : ∀ k, WhS x g m (fun i => if i = q then nv else vj i) S.n k → WhS x g m vs S.n k := by
    rintro k (h | h | h | ⟨i, hi, h⟩)
    · exact .inl h
    · exact .inr (.inl h)
    · exact .inr (.inr (.inl h))
    · refine .inr (.inr (.inr ⟨i, hi, ?_⟩))
      by_cases e : i = q
      · subst e
        simp only [if_true] at h
        rw [← hb i hi, ← hnb]; exact h
      · simp only [if_neg e] at h
        rw [← hb i hi]; exact h
  refine ⟨by rw [e2, List.length_append, tcl_append]; exact ho, ?_, fun i => if i = q then nv else vj i, hM.gen hg (fun k hk hs => ?_), fun i hi => ?_⟩
  · refine (hU.trans' hu (fun k hk h => ?_)).trans' hg (fun k hk h => ?_)
    · rcases h with h | h
      · exact .inr (.inl h)
      · exact .inr (.inr (.inr ⟨q, hqn, by rw [← hb q hqn]; exact h⟩))
    · have := hvl k h; omega
  · have h1 := hw.mid.slt (hvj k hs)
    have := hvl k hk; omega
  · by_cases e : i = q
    · subst e
      simp only [if_true]
      rw [hnb, hb i hi]
    · simp only [if_neg e]
      exact hb i hi

set_option maxRecDepth 100000 in
set_option maxHeartbeats 4000000 in
theorem Turn_ok (w : World) (x g m : Nat) (vs : Nat → Value) (S : Wh) (now : Nat) (h : WhIn w x g m vs S) (hn : S.last ≤ now) (hn2 : now ≤ 1099511627776) :
    Calls Try.prog 12 #[.pointer (some ⟨x, 0, none⟩), .int .i64 (now : Nat)] w (TurnPost x g m now vs S w) := by
  have c0 := h.c0
  have c2 := h.c2
  have hpos := h.ok.pos
  have hmost := h.ok.most
  have hmany : S.many now ≤ S.n := by unfold Wh.many; omega
  have hxl := h.lt
  have hL0 : L1 w x g m now vs S 0 (.slice none 0 0) w := ⟨⟨by simp [Wh.some, tcl], .inl ⟨rfl, by simp [Wh.some]⟩⟩, Upto.refl _ _, vs, by rw [Wh.mid_zero]; exact h.mid, fun _ _ => rfl⟩
  have HL0 := Lib.hid hL0
  have HH := Lib.hid h
  have hsl : ∀ k, WhS x g m vs S.n k → k < w.heap.size := fun k hk => h.mid.slt hk
  have HSL := Lib.hid hsl
  have hmn : ∀ v : Int, (v = (now : Int) - S.last + 1 ∧ v ≤ S.n) ∨ (v = S.n ∧ v ≤ (now : Int) - S.last + 1) → v = (S.many now : Nat) := fun v hv => by unfold Wh.many; omega
  have HMN := Lib.hid hmn
  have hSM : ∀ j, j ≤ S.n → (S.some now j).length ≤ 1000000 := fun j hj => Nat.le_trans (Wh.some_le hj) h.ok.many
  have HSM := Lib.hid hSM
  obtain ⟨i0, hi, hz0, hz1, hz2⟩ := info_parts Try.info69
  clear hmn hL0 hsl hSM
  have hb1 : decide (now < S.last) = false := by simpa using hn
  have hb1' : decide (((now : Nat) : Int) < ((S.last : Nat) : Int)) = false := by simpa using hn
  have hb2 : decide ((1099511627776 : Int) < ((now : Nat) : Int)) = false := by simp; omega
  go_enter Try.func12, Try.ntmps12
  go_upto_region 7 with (go_at_call 25; refine (none_no _ _ _ _ _ _ h).mono ?_; rintro e w' ⟨rfl, rfl⟩)
  go_cut [39, 40] (fun v u wr => v = .int .i64 (S.many now : Nat) ∧ u = .int .i64 0 ∧ w = wr)
  case first =>
    go_wp2_with fail
    all_goals
      go_meet
      case rel => exact ⟨congrArg _ (HMN.out _ (by omega)), rfl, rfl⟩
  case rest =>
    obtain ⟨rfl, rfl, rfl⟩ := hcut
    clear h c0
    generalize hmd : S.many now = M at hmany HMN ⊢
    have HMD := Lib.hid hmd
    clear hmd HMN
    go_wp2_with fail
    go_loopw [7, 40] (fun v i wr => ∃ (j c : Nat) (a : Option Addr), j ≤ M ∧ v = .slice a (S.some now j).length c ∧ i = .int .i64 j ∧ Hid (L1 w x g m now vs S j (.slice a (S.some now j).length c) wr)) (fun _ i _ => M - (intOf i).toNat)
    case atStart => exact ⟨0, 0, none, by omega, rfl, rfl, HL0⟩
    case round =>
      obtain ⟨j, c, a, hj, rfl, rfl, HL⟩ := hrel
      by_cases hlt : j < M
      · have hL := HL.out
        obtain ⟨hown, hU, vj, hM, hb⟩ := hL
        have hjn : j < S.n := by omega
        obtain ⟨q, hq⟩ : ∃ q, q = (S.last + j) % S.n := ⟨_, rfl⟩
        have hqn : q < S.n := by rw [hq]; exact Nat.mod_lt _ hpos
        have hmq : (((S.last : Nat) : Int) + (j : Nat)) % (S.n : Int) = (q : Nat) := by rw [hq]; exact mod_q S j
        have hc2 := hM.c2
        obtain ⟨T, hT⟩ : ∃ T, T = (S.mid now j q).filter (fun t => decide (t.d ≤ now)) := ⟨_, rfl⟩
        have hlen : (S.some now (j + 1)).length = (S.some now j).length + T.length := by rw [Wh.some_succ, List.length_append, ← hq, hT, show S.mid now j q = S.at q from by rw [hq]; exact Wh.mid_new S hjn]
        have hk := take_mid wr x g m q now vj S.n S.last (S.mid now j) _ hM hqn (Nat.le_trans Wh.mid_le HH.out.ok.many)
        have HT := Lib.hid hk
        have HQ := Lib.hid hq.symm
        have HU := Lib.hid hU
        have HB := Lib.hid hb
        have HO := Lib.hid hown
        have HTT := Lib.hid hT.symm
        have hvl : ∀ k, (Value.slice a (S.some now j).length c).ownBlock = some k → w.heap.size ≤ k := fun k hk => (hown.lt k hk).1
        have HVL := Lib.hid hvl
        have hvw : ∀ k, (Value.slice a (S.some now j).length c).ownBlock = some k → ¬ (k = g ∨ (vj q).ownBlock = some k) := fun k hk => by
          have h1 := hvl k hk
          rintro (e | e)
          · have := HSL.out k (.inr (.inl e)); omega
          · have := HSL.out k (.inr (.inr (.inr ⟨q, hqn, by rw [← hb q hqn]; exact e⟩))); omega
        have HVW := Lib.hid hvw
        have hl1 := HSM.out j (by omega)
        have hl2 := HSM.out (j + 1) (by omega)
        rw [hlen] at hl2
        have hwr := hU.size
        have HLEN := Lib.hid hlen
        by_cases hTe : T = []
        · have HTE := Lib.hid hTe
          clear hq hU hb hown hM HL hvl hvw hT hk hlen hTe
          go_wp2_with (first
            | (go_at_call 26; refine HT.out.mono ?_; rintro e w1 ⟨vt, nv, rfl, hT1, hM1, hu1, hnb, hnil⟩; obtain rfl := hnil (HTT.out.trans HTE.out); have hown1 := hu1.own HO.out HVW.out; clear hnil)
            | (at_builtin; refine wpList_append_own_none rfl (.tmp 43) (.tmp 54) 67 rfl w.heap.size 69 i0 3 Try.underlying67 hi (.slice a (S.some now j).length c) _ _ rfl hown1 rfl ?_))
          go_roundw
          case rel =>
            have e0 : (S.some now (j + 1)).length = (S.some now j).length := by rw [HLEN.out, HTE.out]; simp
            refine ⟨j + 1, c, a, by omega, by rw [e0], by go_num, Lib.hid ?_⟩
            rw [e0]
            refine L1.next HH.out.ok HH.out HQ.out hqn hjn HU.out HB.out hM1 hu1 hnb (HTT.out.trans HTE.out) ?_ (Upto.refl _ _) HVL.out
            simpa [tcl] using hown1
          case measure => simp [intOf]; omega
        · have HTE := Lib.hid hTe
          clear hq hU hb hown hM HL hvl hvw hT hk hlen hTe
          have hTl : 0 < T.length := List.length_pos_iff.2 HTE.out
          go_wp2_with (first
            | (go_at_call 26; refine HT.out.mono ?_; rintro e w1 ⟨vt, nv, rfl, hT1, hM1, hu1, hnb, hnil⟩; rw [HTT.out] at hT1; obtain ⟨q2, cap2, rfl, hq2, hq2l⟩ := own_form hT1 hTl; have hown1 := hu1.own HO.out HVW.out; clear hnil)
            | (at_builtin; refine wpList_append_own _ rfl (.tmp 43) (.tmp 54) 67 rfl w.heap.size 69 i0 _ 3 24 Try.underlying67 hi hz0 hz1 hz2 rfl (by decide) (.slice a (S.some now j).length c) _ _ rfl hown1 ⟨q2, 0, none⟩ T.length cap2 (tcl T) rfl (tcl_length T) (hT1.cells rfl) tcl_one' (by unfold maxLen; omega) (by omega) (by have := hu1.size; omega) ?_; intro v2 w2 hown2 hg2 _; obtain ⟨a2, c2', rfl, _⟩ := own_slice hown2))
          go_roundw
          case rel =>
            refine ⟨j + 1, c2', a2, by omega, by rw [HLEN.out], by go_num, Lib.hid ?_⟩
            rw [HLEN.out]
            exact L1.next HH.out.ok HH.out HQ.out hqn hjn HU.out HB.out hM1 hu1 hnb HTT.out hown2 (Upto.of_grown hg2) HVL.out
          case measure => simp [intOf]; omega
      · obtain rfl : j = M := by omega
        obtain ⟨hown, hU, vj, hM, hb⟩ := HL.out
        have hRl : (S.some now j).length = (S.told now).length := by
          have := (Wh.some_all HH.out.ok hn).length_eq
          rw [HMD.out] at this
          rw [this]; unfold Wh.told; rw [srt_len]
        have hx2 := hM.c2
        have fx2 := hM.row.frozen 2
        have hM2 := hM.setLast now
        have hmid : S.mid now j = (S.turn now).at := by
          funext k
          rw [← HMD.out]; exact Wh.mid_all HH.out.ok hn k
        rw [hmid] at hM2
        have hxv : ∀ k, (Value.slice a (S.some now j).length c).ownBlock = some k → ¬ k = x := fun k hk => by have := (hown.lt k hk).1; omega
        have hu2 : Upto (fun k => k = x) wr (wr.setCell ⟨x, 2, none⟩ (.int .i64 (now : Nat))) := (Upto.refl (fun k => k = x) wr).setB rfl _
        have hown2 := hu2.own hown hxv
        have hs := sort_any _ w.heap.size _ _ hown2 (HSM.out j (by omega))
        have hsr : srt (S.some now j) = S.told now := by rw [← HMD.out]; exact Wh.told_some HH.out.ok hn
        obtain ⟨R, hR⟩ : ∃ R, R = S.told now := ⟨_, rfl⟩
        obtain ⟨p, hp⟩ : ∃ p, p = (S.some now j).length := ⟨_, rfl⟩
        have hso : ∀ e w', SortPost w.heap.size (.slice a (S.some now j).length c) (S.some now j) (wr.setCell ⟨x, 2, none⟩ (.int .i64 (now : Nat))) e w' →
            e = .returned (.tuple #[]) ∧ L2 w x g m now vs vj S (.slice a p c) 0 (.slice none 0 0) w' ∧ wr.heap.size ≤ w'.heap.size := by
          rintro e w' ⟨rfl, ho, hu⟩
          have hsz := hU.size
          refine ⟨rfl, ⟨?_, ?_, ?_, ⟨by simp [hcl], .inl ⟨rfl, rfl⟩⟩⟩, Nat.le_trans hu2.size hu.size⟩
          · rw [hp]
            rw [hsr, hRl] at ho
            rw [hRl]; exact ho
          · exact (hU.trans (hu2.mono (fun k _ e => .inl e))).trans' hu (fun k hk e => by have := (hown.lt k e).1; omega)
          · rw [Wh.left_zero]
            refine hM2.gen hu (fun k hk hs => ?_)
            have h1 := (hown.lt k hk).1
            have h2 : WhS x g m vs S.n k := by
              rcases hs with h | h | h | ⟨i, hi, h⟩
              · exact .inl h
              · exact .inr (.inl h)
              · exact .inr (.inr (.inl h))
              · exact .inr (.inr (.inr ⟨i, hi, by rw [← hb i hi]; exact h⟩))
            have := HSL.out k h2; omega
        have HSO := Lib.hid hso
        have HS := Lib.hid hs
        have HB := Lib.hid hb
        have HR := Lib.hid hR.symm
        have hpl : p = R.length := by rw [hp, hRl, hR]
        have HPL := Lib.hid hpl
        have hpm : p ≤ 1000000 := by rw [hp]; exact HSM.out j (by omega)
        have hsome : 0 < p → ∃ q3, a = some ⟨q3, 0, none⟩ := fun h0 => by
          obtain ⟨q3, cp, e, _⟩ := own_form hown (by rw [← hp]; exact h0)
          simp at e
          exact ⟨q3, e.1⟩
        have HSOME := Lib.hid hsome
        have hwsz := hU.size
        rw [← hp] at hs
        clear hown hU hM hb hRl hM2 hmid hxv hu2 hown2 hsr hR hso hsome HL hpl
        replace HS := Lib.hid hs
        clear hs
        rw [← hp] at HSO
        rw [← hp]
        clear hp
        go_wp2_with (go_at_call 27; refine HS.out.mono ?_; intro e w3 hpost; obtain ⟨rfl, hL2, hsz3⟩ := HSO.out e w3 hpost; have HL2 := Lib.hid hL2; clear hL2 hpost)
        obtain ⟨i1, hj1, hy0, hy1, hy2⟩ := info_parts Try.info31
        go_loopw [9, 65] (fun v i wr => ∃ (k c' : Nat) (a' : Option Addr), k ≤ p ∧ v = .slice a' k c' ∧ i = .int .i64 k ∧ Hid (L2 w x g m now vs vj S (.slice a p c) k (.slice a' k c') wr) ∧ w.heap.size ≤ wr.heap.size) (fun _ i _ => p - (intOf i).toNat)
        case atStart => exact ⟨0, 0, none, by omega, rfl, rfl, HL2, by omega⟩
        case round =>
          clear HL2 hsz3 hwsz
          obtain ⟨k, c', a', hk, rfl, rfl, HL, hwr⟩ := hrel
          by_cases hlt2 : k < p
          · obtain ⟨q3, rfl⟩ := HSOME.out (by omega)
            have hL := HL.out
            rw [L2, HR.out] at hL
            obtain ⟨hown, hU, hM, hvo⟩ := hL
            have hkR : k < R.length := by rw [← HPL.out]; exact hlt2
            rw [← HPL.out] at hown
            obtain ⟨s0, s1, s2⟩ := own_tcl hown k hkR
            have hxc := hM.c1
            have tmem : tmAt R k ∈ S.E := Wh.told_mem _ (by rw [HR.out]; exact tmAt_mem hkR)
            have hlm := Wh.left_mem HH.out.ok (R := R) (by rw [← HR.out]; exact Wh.told_nodup HH.out.ok now) (by rw [← HR.out]; exact Wh.told_mem) hkR
            obtain ⟨A1, A2, hA, hA'⟩ := drop_parts (Wh.left_nodup HH.out.ok R k) hlm (fun t => spv S.n S.last t.d)
            obtain ⟨lk, hlk⟩ := key31 (HH.out.ok.each _ tmem).2
            have n0 := new_1 wr #[.int .i64 (td R k : Nat), .int .i64 (ts R k), .int .u32 (tg R k : Nat)] 69 1 (.int .i64 (ts R k)) rfl
            have n1 := new_1 wr #[.int .i64 (td R k : Nat), .int .i64 (ts R k), .int .u32 (tg R k : Nat)] 69 2 (.int .u32 (tg R k : Nat)) rfl
            have c1 := keep_alloc hxc (.cells #[.int .i64 (td R k : Nat), .int .i64 (ts R k), .int .u32 (tg R k : Nat)] 69)
            obtain ⟨w2, hr2, hm2, hu2, hs2, _⟩ := ((hM.mp.alloc (.cells #[.int .i64 (td R k : Nat), .int .i64 (ts R k), .int .u32 (tg R k : Nat)] 69)).drew).drop (ty := 0) keyed31 Try.underlying59 hlk hA
            have hml := hM.mp.lt
            have hUa : Upto NoS wr (wr.alloc (.cells #[.int .i64 (td R k : Nat), .int .i64 (ts R k), .int .u32 (tg R k : Nat)] 69)) := (Upto.refl _ wr).alloc _
            have hsa : (wr.alloc (.cells #[.int .i64 (td R k : Nat), .int .i64 (ts R k), .int .u32 (tg R k : Nat)] 69)).drew.heap.size = wr.heap.size + 1 := by simp
            have hMa := (hM.alloc (.cells #[.int .i64 (td R k : Nat), .int .i64 (ts R k), .int .u32 (tg R k : Nat)] 69)).drew
            have HR2 := Lib.hid hr2
            have HA' := Lib.hid hA'
            have HOW := Lib.hid hown
            have HVO := Lib.hid hvo
            have HU := Lib.hid hU
            have HMA := Lib.hid hMa
            have HM2 := Lib.hid hm2
            have HU2 := Lib.hid hu2
            have HUA := Lib.hid hUa
            clear hA hA' hlk hown hvo hU hMa hm2 hUa tmem hlm hr2 hM HL hxc
            go_wp2_with fail
            generalize wr.alloc (.cells #[.int .i64 (td R k : Nat), .int .i64 (ts R k), .int .u32 (tg R k : Nat)] 69) = W at n0 n1 c1 hu2 hs2 hsa HR2 HM2 HMA HUA HU2 ⊢
            have n0 : W.drew.cell? ⟨wr.heap.size, 1, none⟩ = _ := n0
            have n1 : W.drew.cell? ⟨wr.heap.size, 2, none⟩ = _ := n1
            have c1 : W.drew.cell? ⟨x, 1, none⟩ = _ := c1
            replace HUA := Lib.hid HUA.out.drew
            have hr2 := HR2.out
            refine wp_region_still_tail 6 (by kernel_rfl) (by kernel_rfl) ?_
            simp only [List.take_succ_cons, List.take_zero, List.drop_succ_cons, List.drop_zero]
            change wpStill _ _ W.drew _ _ _
            change wpStill _ _ _ (fun a' => wpList _ _ _ _ a' W.drew) _ _
            clear HR2
            generalize W.drew = W4 at n0 n1 c1 hr2 hu2 hs2 hsa HM2 HMA HUA HU2 ⊢
            have hm0 : ¬ wr.heap.size = m := by omega
            repeat (first | still_step)
            refine wpStill_nil ?_
            have z0 := hu2.keep n0 hm0
            have z1 := hu2.keep n1 hm0
            have zx0 : w2.heap.size = wr.heap.size + 1 := hs2.trans hsa
            have hUR : Upto (fun i => i = m) wr w2 := (HUA.out.mono (fun _ _ h => h.elim)).trans hu2
            have hvo2 := hUR.own HVO.out (fun b hb e => by have := (HVO.out.lt b hb).1; have := HSL.out m (.inr (.inr (.inl rfl))); have e : b = m := e; omega)
            have ho2 := hUR.own HOW.out (fun b hb e => by have := (HOW.out.lt b hb).1; have := HSL.out m (.inr (.inr (.inl rfl))); have e : b = m := e; omega)
            have HUR := Lib.hid hUR
            have HO2 := Lib.hid ho2
            have hva := hvo2.alloc (.cells #[.int .i64 (ts R k), .int .u32 (tg R k : Nat)] 31)
            have HVO2 := Lib.hid hvo2
            have ZX := Lib.hid zx0
            clear zx0 hu2 hs2 hsa hUR ho2 hvo2 n0 n1 c1
            go_wp2_with (at_builtin; refine wpList_append_own _ rfl (.tmp 75) (.tmp 78) 34 rfl w.heap.size 31 i1 _ 2 16 Try.underlying34 hj1 hy0 hy1 hy2 rfl (by decide) (.slice a' k c') _ _ rfl hva ⟨w2.heap.size, 0, none⟩ 1 1 [.int .i64 (ts R k), .int .u32 (tg R k : Nat)] rfl rfl (pair_new _ _ _ _) (pair_one _ _ _ _) (by unfold maxLen; omega) (by omega) (by have := ZX.out; simp; omega) ?_; intro v5 w5 hown5 hg5 _; obtain ⟨a5, c5, rfl, _⟩ := own_slice hown5)
            go_roundw
            case rel =>
              have hug := Upto.of_grown hg5
              have hsz2 := HUR.out.size
              refine ⟨k + 1, c5, a5, by omega, rfl, by go_num, Lib.hid ?_, by have := hug.size; simp at this; omega⟩
              have hvb : ∀ b, (Value.slice a' k c').ownBlock = some b → w.heap.size ≤ b := fun b hb => (HVO.out.lt b hb).1
              have UA : Upto NoS w2 (w2.alloc (.cells #[.int .i64 (ts R k), .int .u32 (tg R k : Nat)] 31)) := (Upto.refl _ w2).alloc _
              rw [L2, HR.out]
              refine ⟨?_, ?_, ?_, ?_⟩
              · rw [← HPL.out]
                exact hug.own (HO2.out.alloc _) (fun b hb e => own_apart HO2.out HVO2.out (by decide) hb e)
              · refine ((HU.out.trans' HUR.out (fun b _ e => .inr (.inr (.inl e)))).trans' UA (fun _ _ h => h.elim)).trans' hug (fun b hb e => ?_)
                have := hvb b e; omega
              · rw [Wh.left_succ S R k hkR]
                have e1 : List.map (ent S.n S.last) ((S.left R k).filter fun u => !(u.h == (tmAt R k).h)) = A1 ++ A2 := HA'.out
                rw [e1]
                refine ((HMA.out.setMap HU2.out HM2.out).gen UA (fun _ h _ => h.elim)).gen hug (fun b hb hs => ?_)
                have h2 : WhS x g m vs S.n b := by
                  rcases hs with h | h | h | ⟨i, hi, h⟩
                  · exact .inl h
                  · exact .inr (.inl h)
                  · exact .inr (.inr (.inl h))
                  · exact .inr (.inr (.inr ⟨i, hi, by rw [← HB.out i hi]; exact h⟩))
                have := HSL.out b h2
                have := hvb b hb; omega
              · have e1 : (R.take (k + 1)).map Tm.h = (R.take k).map Tm.h ++ [⟨ts R k, tg R k⟩] := by
                  rw [List.take_succ_eq_append_getElem hkR, List.map_append, ← tm_at R k hkR]; rfl
                rw [e1, hcl_snoc]
                exact hown5
            case measure => simp [intOf]; omega
          · obtain rfl : k = p := by omega
            have hL := HL.out
            rw [L2, HR.out] at hL
            have HLL := Lib.hid hL
            clear hL HL
            go_wp2
            go_ret2
            obtain ⟨hown, hU, hM, hvo⟩ := HLL.out
            have hRe := HR.out
            refine ⟨_, vj, rfl, ?_, ⟨?_, Wh.turn_ok HH.out.ok hn2⟩, hU, HB.out⟩
            · rw [hRe, ← HPL.out]
              rw [HPL.out, List.take_length, ← HPL.out] at hvo
              exact hvo
            · have e1 := Wh.left_all HH.out.ok now
              rw [hRe] at e1
              rw [HPL.out, e1, Wh.turn_ent hn] at hM
              exact hM
end Go.Proofs.Ytgoaokgoenihlaa
