/- PortsPlay, walked. -/
import Derived.Test.YtfiblchdfacdiaaDoW
import Derived.Test.YtfiblchdfacdiaaSameW
namespace Go.Proofs.Ytfiblchdfacdiaa
open Go Go.RowKit Go.Deep Go.Maps

theorem srt_srt {R : List Rw} (hk : KeyO R) : srt (srt R) = srt R := (srt_of (L := srt R) (M := srt R) hk.srt (List.Perm.refl _) (srt_sorted R)).symm
theorem vI_dec {R : List Rw} (hk : KeyI R) (p a b : Nat) : decide ((0 : Int) ≤ vX (srt R) (pI p a b)) = (gI R p a b).isSome := by
  cases h : gI R p a b with
  | none => rw [vX_no (gI_srt_none h)]; rfl
  | some r => rw [vX_of (k := iI (srt R) p a b) rfl (gI_srt_some hk h).1]; simp
theorem vO_dec {R : List Rw} (hk : KeyO R) (p a b : Nat) : decide ((0 : Int) ≤ vX (srt R) (pO p a b)) = (gO R p a b).isSome := by
  cases h : gO R p a b with
  | none => rw [vX_no (gO_srt_none h)]; rfl
  | some r => rw [vX_of (k := iO (srt R) p a b) rfl (gO_srt_some hk h).1]; simp
theorem Good.srt {n : Nat} {R : List Rw} (h : Good n R) : Good n (srt R) := ⟨by rw [srt_len]; exact h.len, fun r hr => h.each r (mem_srt.1 hr)⟩
theorem Duo.start {w w1 : World} {x : Nat} {O : Nat → Prop} (hp : PsD w w1 x O [] (fun _ => False)) : ∃ O Oq, Duo w (w1.alloc (.cells #[.slice none 0 0] 60)) x w1.heap.size O Oq [] (srt []) (fun _ => False) := by
  obtain ⟨O', h1, h2⟩ := hp.tight
  have hU : Upto NoS w1 (w1.alloc (.cells #[.slice none 0 0] 60)) := (Upto.refl _ _).alloc _
  have hq := h1.quiet hU
  have hs : w1.heap.size < (w1.alloc (.cells #[.slice none 0 0] 60)).heap.size := by simp
  have hus := hp.u.size
  refine ⟨O', fun k => k = w1.heap.size, ⟨hq.at_, hq.u, hq.lo, fun k hk ho => ?_, fun k hk => ?_⟩, fun k hk => Nat.lt_of_lt_of_le (h2 k hk) hU.size, ⟨none, 0, ⟨?_, ?_, ?_, ?_, ?_, hus⟩, fun k hk => ?_⟩, fun k hk => ?_, fun k hk => hk.elim⟩
  · rcases hk with e | e
    · have := h2 k ho; omega
    · exact e.elim
  · rcases hk with e | e
    · omega
    · exact e.elim
  · rw [show srt [] = [] from by simp [Ytfiblchdfacdiaa.srt]]
    exact World.rowIs_alloc w1 #[.slice none 0 0] 60 _ (fun i hi => by
      have : i < 1 := hi
      match i, this with
      | 0, _ => rfl)
  · rw [show srt [] = [] from by simp [Ytfiblchdfacdiaa.srt]]
    exact World.ownsRow_nil _ _ _ _
  · rw [show srt [] = [] from by simp [Ytfiblchdfacdiaa.srt]]
    exact fun r hr => by simp at hr
  · rw [show srt [] = [] from by simp [Ytfiblchdfacdiaa.srt]]
    simp
  · simp [Value.ownBlock]
  · rcases hk with e | e
    · exact e
    · simp [Value.ownBlock] at e
  · have hk : k = w1.heap.size := hk
    omega
theorem P_spoil {w wr : World} {x : Nat} {O K : Nat → Prop} {R : List Rw} (h : PsD w wr x O R K) {n : Nat} (hg : Good n R) (hn : n ≤ 900) :
    Calls Try.prog 14 #[.pointer (some ⟨x, 0, none⟩), .agg #[.int .u8 0, .int .u32 0, .int .u16 0, .int .u32 0, .int .u16 1, .int .u16 9, .int .u16 0]] wr fun e w' => ∃ v R' O', e = .returned v ∧ PsD w w' x O' R' K ∧ Upto (fun k => ¬ K k) wr w' := by
  obtain ⟨g1, g2, _⟩ := hg.lt (by omega)
  refine (P_take h ⟨0, 0, 0, 0, 1, 9, 0⟩ ⟨by decide, by decide, by decide, by decide, by decide, by decide, by decide⟩ g1 g2).mono ?_
  rintro e w' ⟨rfl, O', h1, h2⟩
  exact ⟨_, _, O', rfl, h1, h2⟩
theorem Duo.copied {w wr w5 : World} {x y : Nat} {O Oq : Nat → Prop} {R : List Rw} (h : Duo w wr x y O Oq R (srt R) (fun _ => False)) (hu : Upto NoS wr w5) {x2 rb2 ob2 : Nat} {T2 : List (Rw × Nat)} (h2 : PsAt w5 x2 rb2 ob2 T2) (hT : T2.map (·.1) = srt R) (hlo : ∀ k, PsS x2 rb2 ob2 T2 k → wr.heap.size ≤ k) :
    (∃ O3, PsD w w5 x O3 R (fun k => PsS x2 rb2 ob2 T2 k ∨ Oq k)) ∧ ∀ w6 O6 R6, PsD w w6 x O6 R6 (fun k => PsS x2 rb2 ob2 T2 k ∨ Oq k) → Upto (fun k => ¬ (PsS x2 rb2 ob2 T2 k ∨ Oq k)) w5 w6 → Duo w w6 x2 y (PsS x2 rb2 ob2 T2) Oq (srt R) (srt (srt R)) (fun _ => False) := by
  have h5 := h.quiet hu
  have hws := h.u.size
  refine ⟨⟨O, ⟨h5.p.at_, h5.p.u, h5.p.lo, fun k hk ho => ?_, fun k hk => ?_⟩⟩, fun w6 O6 R6 hp6 hu6 => ?_⟩
  · rcases hk with e | e
    · have := hlo k e; have := h.olt k ho; omega
    · exact h.p.apart k (.inl e) ho
  · rcases hk with e | e
    · exact h2.slt k e
    · exact h5.p.kl k (.inl e)
  · obtain ⟨a, c, h7, h8⟩ := h5.q
    refine ⟨⟨⟨rb2, ob2, T2, h2.gen hu6 (fun k hk e => hk (.inl e)), hT, fun _ e => e⟩, hp6.u, fun k hk => by have := hlo k hk; omega, fun k hk e => ?_, fun k hk => ?_⟩, fun k hk => Nat.lt_of_lt_of_le (h2.slt k hk) hu6.size, ⟨a, c, ?_, h8⟩, h.qlo, fun k hk => hk.elim⟩
    · rcases hk with e' | e'
      · have := hlo k e; have := h.p.kl k (.inl e'); omega
      · exact e'.elim
    · rcases hk with e' | e'
      · exact Nat.lt_of_lt_of_le (h5.p.kl k (.inl e')) hu6.size
      · exact e'.elim
    · rw [srt_srt h.p.keyO]
      exact h7.gen hu6 (fun k hk e => hk (.inr (h8 k e)))
/-- The contract of Copy, at ports that the call has made. -/
theorem D_copy {w wr : World} {x y : Nat} {O Oq : Nat → Prop} {R : List Rw} (h : Duo w wr x y O Oq R (srt R) (fun _ => False)) {n : Nat} (hg : Good n R) (hn : n ≤ 900) :
    Calls Try.prog 22 #[.pointer (some ⟨x, 0, none⟩)] wr fun e w5 => ∃ x2 rb2 ob2 T2, e = .returned (.pointer (some ⟨x2, 0, none⟩)) ∧ (∃ O3, PsD w w5 x O3 R (fun k => PsS x2 rb2 ob2 T2 k ∨ Oq k)) ∧ ∀ w6 O6 R6, PsD w w6 x O6 R6 (fun k => PsS x2 rb2 ob2 T2 k ∨ Oq k) → Upto (fun k => ¬ (PsS x2 rb2 ob2 T2 k ∨ Oq k)) w5 w6 → Duo w w6 x2 y (PsS x2 rb2 ob2 T2) Oq (srt R) (srt (srt R)) (fun _ => False) := by
  obtain ⟨rb, ob, T, hP, hT, _⟩ := h.p.at_
  have hl := hg.len
  refine (Copy_any wr x rb ob T hP (by rw [← hT] at hl; simp at hl; omega)).mono ?_
  rintro e w5 ⟨x2, rb2, ob2, T2, rfl, h2, hT2, hu, hlo⟩
  rw [hT] at hT2
  obtain ⟨h3, h4⟩ := h.copied hu h2 hT2 hlo
  exact ⟨x2, rb2, ob2, T2, rfl, h3, h4⟩

set_option maxRecDepth 100000 in
set_option maxHeartbeats 16000000 in
theorem play_walk (w : World) (a : Option Addr) (len cap : Nat) (z : Nat → ActP) (hm : len ≤ 9223372036854775807) (hz : ActsAt w a len z) :
    Calls Try.prog 6 #[.slice a len cap] w (Told (.bool true) w) := by
  have HZ := Lib.hid hz
  clear hz
  by_cases hlen : 60 < len
  · go_enter Try.func6, Try.ntmps6
    go_wp2_with (go_at_call 8; refine (let_any _).mono ?_; rintro e w1 ⟨rfl, hu1⟩)
    go_ret
    exact ⟨rfl, hu1⟩
  · go_enter Try.func6, Try.ntmps6
    go_wp2_with (go_at_call 9; refine (P_new w w (Upto.refl _ _) (fun _ => False) (fun _ h => h.elim)).mono ?_; rintro e w1 ⟨x, O0, rfl, hP0, hu0⟩)
    have HD0 := Lib.hid (Duo.start hP0)
    clear hP0 hu0
    generalize w1.alloc (.cells #[.slice none 0 0] 60) = W0 at HD0 ⊢
    generalize w1.heap.size = y at HD0 ⊢
    go_loopw [3, 5] (fun v3 v5 wr => ∃ (k x : Nat) (R : List Rw), k ≤ len ∧ v3 = .pointer (some ⟨x, 0, none⟩) ∧ v5 = .int .i64 k ∧ Hid (Good (3 * k) R) ∧ Hid (∃ O Oq, Duo w wr x y O Oq R (srt R) (fun _ => False))) (fun _ v _ => len - (intOf v).toNat)
    case atStart => exact ⟨0, x, [], by omega, rfl, rfl, Lib.hid Good.nil, HD0⟩
    case round =>
      clear HD0
      obtain ⟨k, x1, R, hkl, rfl, rfl, HG, HD⟩ := hrel
      obtain ⟨O, Oq, hD⟩ := HD.out
      by_cases hlt : k < len
      · as_aux_lemma =>
          obtain ⟨hzk, bo, off, ha, hbo, hA0⟩ := HZ.out k hlt
          have hA := hA0.upto hD.u
          obtain ⟨y0, hy⟩ : ∃ y0, z k = y0 := ⟨_, rfl⟩
          rw [hy] at hA hzk hA0
          have HA0 := Lib.hid hA0
          have HZK := Lib.hid hzk
          obtain ⟨g0, g1, g2, g3, g4, g5, g6, g7, g8, g9, g10, g11, g12, g13⟩ := hA.cells
          subst ha
          have z0 : (0 : Int) ≤ (k : Int) := by omega
          have z1 : (k : Int) < (len : Int) := by omega
          obtain ⟨r, hr⟩ : ∃ r : Nat, (y0.k : Int) % 9 = r := ⟨y0.k % 9, by omega⟩
          have hD0 := Lib.hid hD
          have hk60 : k < 60 := by omega
          clear hA hy hA0 hzk hD
          go_upto_if 30 with (fail)
          go_cut [3] (fun v wd => ∃ (x' : Nat) (R' : List Rw), v = .pointer (some ⟨x', 0, none⟩) ∧ Hid (Good (3 * k + 3) R') ∧ Hid (∃ O Oq, Duo w wd x' y O Oq R' (srt R') (fun _ => False)))
          case first =>
            by_cases h8 : r = 8
            · as_aux_lemma =>
                subst h8
                go_wp2_with (first
                  | (go_at_call 22; refine (D_copy hD0.out HG.out (by omega)).mono ?_; rintro e w5 ⟨x2, rb2, ob2, T2, rfl, ⟨O3, hp5⟩, hfin⟩)
                  | (go_at_call 14; refine (P_spoil hp5 HG.out (by omega)).mono ?_; rintro e w6 ⟨v6, R6, O6, rfl, hp6, hu6⟩))
                go_meet
                case rel => exact ⟨x2, srt R, rfl, Lib.hid (HG.out.srt.up.up.up), Lib.hid ⟨_, _, hfin _ _ _ hp6 hu6⟩⟩
            · as_aux_lemma =>
                have e8 : ((r : Int) == 8) = false := by simp; omega
                go_wp2_with (go_at_call 23; refine (Do_any hD0.out y0 HZK.out HG.out (by omega)).mono ?_; rintro e w5 ⟨rfl, R5, O5, Oq5, hD5, hG5, hu5⟩)
                go_meet
                case rel => exact ⟨x1, R5, rfl, Lib.hid hG5.up, Lib.hid ⟨O5, Oq5, hD5⟩⟩
          case rest =>
            clear g0 g1 g2 g3 g4 g5 g6 g7 g8 g9 g10 g11 g12 g13 hD0 HG HD hr
            obtain ⟨x2, R2, rfl, HG, HD⟩ := hcut
            obtain ⟨O2, Oq2, hD2⟩ := HD.out
            have HD2 := Lib.hid hD2
            obtain ⟨bI, hbI⟩ : ∃ b, (gI R2 y0.pr y0.fa y0.fb).isSome = b := ⟨_, rfl⟩
            obtain ⟨rI, hrI⟩ : ∃ r, (gI R2 y0.pr y0.fa y0.fb).getD rw0 = r := ⟨_, rfl⟩
            obtain ⟨bO, hbO⟩ : ∃ b, (gO R2 y0.pr y0.fa y0.fb).isSome = b := ⟨_, rfl⟩
            obtain ⟨rO, hrO⟩ : ∃ r, (gO R2 y0.pr y0.fa y0.fb).getD rw0 = r := ⟨_, rfl⟩
            obtain ⟨EI, hEI⟩ : ∃ E, vX (srt R2) (pI y0.pr y0.fa y0.fb) = E := ⟨_, rfl⟩
            obtain ⟨EO, hEO⟩ : ∃ E, vX (srt R2) (pO y0.pr y0.fa y0.fb) = E := ⟨_, rfl⟩
            have dI := vI_dec hD2.p.keyI y0.pr y0.fa y0.fb
            have dO := vO_dec hD2.p.keyO y0.pr y0.fa y0.fb
            rw [hEI, hbI] at dI
            rw [hEO, hbO] at dO
            have HI1 := Lib.hid (And.intro hrI hbI)
            have HO1 := Lib.hid (And.intro hrO hbO)
            have HEI := Lib.hid hEI
            have HEO := Lib.hid hEO
            have zI : (bI != bI) = false := by simp
            have zO : (bO != bO) = false := by simp
            have HDI := Lib.hid dI
            have HDO := Lib.hid dO
            clear hbI hrI hbO hrO hEI hEO dI dO hD2 HD
            go_upto_region 15 with (go_at_call 24; refine (Same_any HD2.out HG.out (by omega)).mono ?_; rintro e w4 ⟨rfl, hu4⟩)
            have HUa := Lib.hid hu4
            clear hu4
            generalize w4 = wr at HUa ⊢
            have hP := (HD2.out.quiet HUa.out)
            have hwl : bo < wr.heap.size := Nat.lt_of_lt_of_le hbo hP.u.size
            obtain ⟨g0, g1, g2, g3, g4, g5, g6, g7, g8, g9, g10, g11, g12, g13⟩ := (HA0.out.upto hP.u).cells
            have HP := Lib.hid hP.p
            clear hP g0 g2 g3 g4 g5 g6 g7 g8 g9 g10 g11
            have dd : wr.drew.cell? ⟨bo, off + k * 14 + 1, none⟩ = some (.int .u8 (y0.pr : Nat)) ∧ wr.drew.cell? ⟨bo, off + k * 14 + 12, none⟩ = some (.int .u32 (y0.fa : Nat)) ∧ wr.drew.cell? ⟨bo, off + k * 14 + 13, none⟩ = some (.int .u16 (y0.fb : Nat)) := ⟨g1, g12, g13⟩
            have da : (wr.alloc (.cells zrw 42)).drew.cell? ⟨bo, off + k * 14 + 1, none⟩ = some (.int .u8 (y0.pr : Nat)) ∧ (wr.alloc (.cells zrw 42)).drew.cell? ⟨bo, off + k * 14 + 12, none⟩ = some (.int .u32 (y0.fa : Nat)) ∧ (wr.alloc (.cells zrw 42)).drew.cell? ⟨bo, off + k * 14 + 13, none⟩ = some (.int .u16 (y0.fb : Nat)) := ⟨keep_alloc g1 _, keep_alloc g12 _, keep_alloc g13 _⟩
            go_cut [7, 8] (fun u v wd => ∃ b : Nat, u = .pointer (some ⟨b, 0, none⟩) ∧ v = .bool bI ∧ Hid (wd.rowIs b 42 7 (rwF rI)) ∧ Hid (Upto NoS wr wd))
            case first =>
              go_region_held3 (fun w' => w'.cell? ⟨bo, off + k * 14 + 1, none⟩ = some (.int .u8 (y0.pr : Nat)) ∧ w'.cell? ⟨bo, off + k * 14 + 12, none⟩ = some (.int .u32 (y0.fa : Nat)) ∧ w'.cell? ⟨bo, off + k * 14 + 13, none⟩ = some (.int .u16 (y0.fb : Nat)))
                (with_reducible first | exact dt | exact ds | exact ⟨keep_alloc ds.1 _, keep_alloc ds.2.1 _, keep_alloc ds.2.2 _⟩ | exact da | exact dd)
                (first
                  | (go_at_call 25; (with_reducible refine (P_of (wr := wr.drew) (HP.out.quiet ((Upto.refl NoS wr).drew)) y0.pr y0.fa y0.fb HZK.out.pr HZK.out.fa HZK.out.fb HI1.out.1 HI1.out.2).mono ?_); rintro e w3 ⟨rfl, hu3⟩; have ds : w3.cell? ⟨bo, off + k * 14 + 1, none⟩ = some (.int .u8 (y0.pr : Nat)) ∧ w3.cell? ⟨bo, off + k * 14 + 12, none⟩ = some (.int .u32 (y0.fa : Nat)) ∧ w3.cell? ⟨bo, off + k * 14 + 13, none⟩ = some (.int .u16 (y0.fb : Nat)) := ⟨hu3.keep dd.1 id, hu3.keep dd.2.1 id, hu3.keep dd.2.2 id⟩)
                  | (go_at_call 25; (with_reducible refine (P_of (wr := (wr.alloc (.cells zrw 42)).drew) (HP.out.quiet (((Upto.refl NoS wr).alloc (.cells zrw 42)).drew)) y0.pr y0.fa y0.fb HZK.out.pr HZK.out.fa HZK.out.fb HI1.out.1 HI1.out.2).mono ?_); rintro e w3 ⟨rfl, hu3⟩; have ds : w3.cell? ⟨bo, off + k * 14 + 1, none⟩ = some (.int .u8 (y0.pr : Nat)) ∧ w3.cell? ⟨bo, off + k * 14 + 12, none⟩ = some (.int .u32 (y0.fa : Nat)) ∧ w3.cell? ⟨bo, off + k * 14 + 13, none⟩ = some (.int .u16 (y0.fb : Nat)) := ⟨hu3.keep da.1 id, hu3.keep da.2.1 id, hu3.keep da.2.2 id⟩; obtain ⟨⟨e0, e1, e2, e3, e4, e5, e6⟩, ff⟩ := zr_cells hu3; have f0 := ff 0; have f1 := ff 1; have f2 := ff 2; have f3 := ff 3; have f4 := ff 4; have f5 := ff 5; have f6 := ff 6; obtain ⟨hR7, hU7⟩ := set7_in rfl hu3 rI; have hu7 : Upto (fun i => i = wr.heap.size) w3 (((((((w3.setCell ⟨wr.heap.size, 0, none⟩ (.int .u8 (rI.p : Nat))).setCell ⟨wr.heap.size, 1, none⟩ (.int .u32 (rI.oa : Nat))).setCell ⟨wr.heap.size, 2, none⟩ (.int .u16 (rI.ob : Nat))).setCell ⟨wr.heap.size, 3, none⟩ (.int .u32 (rI.ia : Nat))).setCell ⟨wr.heap.size, 4, none⟩ (.int .u16 (rI.ib : Nat))).setCell ⟨wr.heap.size, 5, none⟩ (.int .i64 (rI.live : Nat))).setCell ⟨wr.heap.size, 6, none⟩ (.int .i64 (rI.held : Nat))) := (((((((Upto.refl (fun i => i = wr.heap.size) w3).setB rfl _).setB rfl _).setB rfl _).setB rfl _).setB rfl _).setB rfl _).setB rfl _; have dt : (((((((w3.setCell ⟨wr.heap.size, 0, none⟩ (.int .u8 (rI.p : Nat))).setCell ⟨wr.heap.size, 1, none⟩ (.int .u32 (rI.oa : Nat))).setCell ⟨wr.heap.size, 2, none⟩ (.int .u16 (rI.ob : Nat))).setCell ⟨wr.heap.size, 3, none⟩ (.int .u32 (rI.ia : Nat))).setCell ⟨wr.heap.size, 4, none⟩ (.int .u16 (rI.ib : Nat))).setCell ⟨wr.heap.size, 5, none⟩ (.int .i64 (rI.live : Nat))).setCell ⟨wr.heap.size, 6, none⟩ (.int .i64 (rI.held : Nat))).cell? ⟨bo, off + k * 14 + 1, none⟩ = some (.int .u8 (y0.pr : Nat)) ∧ (((((((w3.setCell ⟨wr.heap.size, 0, none⟩ (.int .u8 (rI.p : Nat))).setCell ⟨wr.heap.size, 1, none⟩ (.int .u32 (rI.oa : Nat))).setCell ⟨wr.heap.size, 2, none⟩ (.int .u16 (rI.ob : Nat))).setCell ⟨wr.heap.size, 3, none⟩ (.int .u32 (rI.ia : Nat))).setCell ⟨wr.heap.size, 4, none⟩ (.int .u16 (rI.ib : Nat))).setCell ⟨wr.heap.size, 5, none⟩ (.int .i64 (rI.live : Nat))).setCell ⟨wr.heap.size, 6, none⟩ (.int .i64 (rI.held : Nat))).cell? ⟨bo, off + k * 14 + 12, none⟩ = some (.int .u32 (y0.fa : Nat)) ∧ (((((((w3.setCell ⟨wr.heap.size, 0, none⟩ (.int .u8 (rI.p : Nat))).setCell ⟨wr.heap.size, 1, none⟩ (.int .u32 (rI.oa : Nat))).setCell ⟨wr.heap.size, 2, none⟩ (.int .u16 (rI.ob : Nat))).setCell ⟨wr.heap.size, 3, none⟩ (.int .u32 (rI.ia : Nat))).setCell ⟨wr.heap.size, 4, none⟩ (.int .u16 (rI.ib : Nat))).setCell ⟨wr.heap.size, 5, none⟩ (.int .i64 (rI.live : Nat))).setCell ⟨wr.heap.size, 6, none⟩ (.int .i64 (rI.held : Nat))).cell? ⟨bo, off + k * 14 + 13, none⟩ = some (.int .u16 (y0.fb : Nat)) := ⟨hu7.keep ds.1 (fun e => by have e : bo = wr.heap.size := e; omega), hu7.keep ds.2.1 (fun e => by have e : bo = wr.heap.size := e; omega), hu7.keep ds.2.2 (fun e => by have e : bo = wr.heap.size := e; omega)⟩))
              · go_wp2_with fail
                go_meet
                case rel => exact ⟨w3.heap.size, rfl, rfl, Lib.hid (new_r7 w3 rI), Lib.hid ((((Upto.refl NoS wr).drew).trans hu3).alloc _)⟩
              · go_wp2_with fail
                go_meet
                case rel => exact ⟨wr.heap.size, rfl, rfl, Lib.hid hR7, Lib.hid hU7⟩
            case rest =>
              obtain ⟨b7, rfl, rfl, _, HUb⟩ := hcut
              clear g1 g12 g13 dd da HP hwl
              have HUc := Lib.hid (HUa.out.trans HUb.out)
              clear HUa HUb
              go_upto_region 16 with (fail)
              generalize wc = wr at HUc ⊢
              have hP := (HD2.out.quiet HUc.out)
              have hwl : bo < wr.heap.size := Nat.lt_of_lt_of_le hbo hP.u.size
              obtain ⟨g0, g1, g2, g3, g4, g5, g6, g7, g8, g9, g10, g11, g12, g13⟩ := (HA0.out.upto hP.u).cells
              have HP := Lib.hid hP.p
              clear hP g0 g2 g3 g4 g5 g6 g7 g8 g9 g10 g11
              have dd : wr.drew.cell? ⟨bo, off + k * 14 + 1, none⟩ = some (.int .u8 (y0.pr : Nat)) ∧ wr.drew.cell? ⟨bo, off + k * 14 + 12, none⟩ = some (.int .u32 (y0.fa : Nat)) ∧ wr.drew.cell? ⟨bo, off + k * 14 + 13, none⟩ = some (.int .u16 (y0.fb : Nat)) := ⟨g1, g12, g13⟩
              have da : (wr.alloc (.cells zrw 42)).drew.cell? ⟨bo, off + k * 14 + 1, none⟩ = some (.int .u8 (y0.pr : Nat)) ∧ (wr.alloc (.cells zrw 42)).drew.cell? ⟨bo, off + k * 14 + 12, none⟩ = some (.int .u32 (y0.fa : Nat)) ∧ (wr.alloc (.cells zrw 42)).drew.cell? ⟨bo, off + k * 14 + 13, none⟩ = some (.int .u16 (y0.fb : Nat)) := ⟨keep_alloc g1 _, keep_alloc g12 _, keep_alloc g13 _⟩
              go_cut [9, 10] (fun u v wd => ∃ b : Nat, u = .pointer (some ⟨b, 0, none⟩) ∧ v = .bool bO ∧ Hid (wd.rowIs b 42 7 (rwF rO)) ∧ Hid (Upto NoS wr wd))
              case first =>
                go_region_held3 (fun w' => w'.cell? ⟨bo, off + k * 14 + 1, none⟩ = some (.int .u8 (y0.pr : Nat)) ∧ w'.cell? ⟨bo, off + k * 14 + 12, none⟩ = some (.int .u32 (y0.fa : Nat)) ∧ w'.cell? ⟨bo, off + k * 14 + 13, none⟩ = some (.int .u16 (y0.fb : Nat)))
                  (with_reducible first | exact dt | exact ds | exact ⟨keep_alloc ds.1 _, keep_alloc ds.2.1 _, keep_alloc ds.2.2 _⟩ | exact da | exact dd)
                  (first
                    | (go_at_call 15; (with_reducible refine (P_owner (wr := wr.drew) (HP.out.quiet ((Upto.refl NoS wr).drew)) y0.pr y0.fa y0.fb HZK.out.pr HZK.out.fa HZK.out.fb HO1.out.1 HO1.out.2).mono ?_); rintro e w3 ⟨rfl, hu3⟩; have ds : w3.cell? ⟨bo, off + k * 14 + 1, none⟩ = some (.int .u8 (y0.pr : Nat)) ∧ w3.cell? ⟨bo, off + k * 14 + 12, none⟩ = some (.int .u32 (y0.fa : Nat)) ∧ w3.cell? ⟨bo, off + k * 14 + 13, none⟩ = some (.int .u16 (y0.fb : Nat)) := ⟨hu3.keep dd.1 id, hu3.keep dd.2.1 id, hu3.keep dd.2.2 id⟩)
                    | (go_at_call 15; (with_reducible refine (P_owner (wr := (wr.alloc (.cells zrw 42)).drew) (HP.out.quiet (((Upto.refl NoS wr).alloc (.cells zrw 42)).drew)) y0.pr y0.fa y0.fb HZK.out.pr HZK.out.fa HZK.out.fb HO1.out.1 HO1.out.2).mono ?_); rintro e w3 ⟨rfl, hu3⟩; have ds : w3.cell? ⟨bo, off + k * 14 + 1, none⟩ = some (.int .u8 (y0.pr : Nat)) ∧ w3.cell? ⟨bo, off + k * 14 + 12, none⟩ = some (.int .u32 (y0.fa : Nat)) ∧ w3.cell? ⟨bo, off + k * 14 + 13, none⟩ = some (.int .u16 (y0.fb : Nat)) := ⟨hu3.keep da.1 id, hu3.keep da.2.1 id, hu3.keep da.2.2 id⟩; obtain ⟨⟨e0, e1, e2, e3, e4, e5, e6⟩, ff⟩ := zr_cells hu3; have f0 := ff 0; have f1 := ff 1; have f2 := ff 2; have f3 := ff 3; have f4 := ff 4; have f5 := ff 5; have f6 := ff 6; obtain ⟨hR7, hU7⟩ := set7_in rfl hu3 rO; have hu7 : Upto (fun i => i = wr.heap.size) w3 (((((((w3.setCell ⟨wr.heap.size, 0, none⟩ (.int .u8 (rO.p : Nat))).setCell ⟨wr.heap.size, 1, none⟩ (.int .u32 (rO.oa : Nat))).setCell ⟨wr.heap.size, 2, none⟩ (.int .u16 (rO.ob : Nat))).setCell ⟨wr.heap.size, 3, none⟩ (.int .u32 (rO.ia : Nat))).setCell ⟨wr.heap.size, 4, none⟩ (.int .u16 (rO.ib : Nat))).setCell ⟨wr.heap.size, 5, none⟩ (.int .i64 (rO.live : Nat))).setCell ⟨wr.heap.size, 6, none⟩ (.int .i64 (rO.held : Nat))) := (((((((Upto.refl (fun i => i = wr.heap.size) w3).setB rfl _).setB rfl _).setB rfl _).setB rfl _).setB rfl _).setB rfl _).setB rfl _; have dt : (((((((w3.setCell ⟨wr.heap.size, 0, none⟩ (.int .u8 (rO.p : Nat))).setCell ⟨wr.heap.size, 1, none⟩ (.int .u32 (rO.oa : Nat))).setCell ⟨wr.heap.size, 2, none⟩ (.int .u16 (rO.ob : Nat))).setCell ⟨wr.heap.size, 3, none⟩ (.int .u32 (rO.ia : Nat))).setCell ⟨wr.heap.size, 4, none⟩ (.int .u16 (rO.ib : Nat))).setCell ⟨wr.heap.size, 5, none⟩ (.int .i64 (rO.live : Nat))).setCell ⟨wr.heap.size, 6, none⟩ (.int .i64 (rO.held : Nat))).cell? ⟨bo, off + k * 14 + 1, none⟩ = some (.int .u8 (y0.pr : Nat)) ∧ (((((((w3.setCell ⟨wr.heap.size, 0, none⟩ (.int .u8 (rO.p : Nat))).setCell ⟨wr.heap.size, 1, none⟩ (.int .u32 (rO.oa : Nat))).setCell ⟨wr.heap.size, 2, none⟩ (.int .u16 (rO.ob : Nat))).setCell ⟨wr.heap.size, 3, none⟩ (.int .u32 (rO.ia : Nat))).setCell ⟨wr.heap.size, 4, none⟩ (.int .u16 (rO.ib : Nat))).setCell ⟨wr.heap.size, 5, none⟩ (.int .i64 (rO.live : Nat))).setCell ⟨wr.heap.size, 6, none⟩ (.int .i64 (rO.held : Nat))).cell? ⟨bo, off + k * 14 + 12, none⟩ = some (.int .u32 (y0.fa : Nat)) ∧ (((((((w3.setCell ⟨wr.heap.size, 0, none⟩ (.int .u8 (rO.p : Nat))).setCell ⟨wr.heap.size, 1, none⟩ (.int .u32 (rO.oa : Nat))).setCell ⟨wr.heap.size, 2, none⟩ (.int .u16 (rO.ob : Nat))).setCell ⟨wr.heap.size, 3, none⟩ (.int .u32 (rO.ia : Nat))).setCell ⟨wr.heap.size, 4, none⟩ (.int .u16 (rO.ib : Nat))).setCell ⟨wr.heap.size, 5, none⟩ (.int .i64 (rO.live : Nat))).setCell ⟨wr.heap.size, 6, none⟩ (.int .i64 (rO.held : Nat))).cell? ⟨bo, off + k * 14 + 13, none⟩ = some (.int .u16 (y0.fb : Nat)) := ⟨hu7.keep ds.1 (fun e => by have e : bo = wr.heap.size := e; omega), hu7.keep ds.2.1 (fun e => by have e : bo = wr.heap.size := e; omega), hu7.keep ds.2.2 (fun e => by have e : bo = wr.heap.size := e; omega)⟩))
                · go_wp2_with fail
                  go_meet
                  case rel => exact ⟨w3.heap.size, rfl, rfl, Lib.hid (new_r7 w3 rO), Lib.hid ((((Upto.refl NoS wr).drew).trans hu3).alloc _)⟩
                · go_wp2_with fail
                  go_meet
                  case rel => exact ⟨wr.heap.size, rfl, rfl, Lib.hid hR7, Lib.hid hU7⟩
              case rest =>
                obtain ⟨b9, rfl, rfl, _, HUd⟩ := hcut
                clear g1 g12 g13 dd da HP hwl
                have HUe := Lib.hid (HUc.out.trans HUd.out)
                clear HUc HUd
                go_upto_region 17 with (fail)
                generalize wc = wr at HUe ⊢
                have hP := (HD2.out.quiet HUe.out)
                obtain ⟨g0, g1, g2, g3, g4, g5, g6, g7, g8, g9, g10, g11, g12, g13⟩ := (HA0.out.upto hP.u).cells
                have HP := Lib.hid hP
                have hI := HDI.out
                have hO := HDO.out
                clear hP g0 g2 g3 g4 g5 g6 g7 g8 g9 g10 g11
                have dd : wr.drew.cell? ⟨bo, off + k * 14 + 1, none⟩ = some (.int .u8 (y0.pr : Nat)) ∧ wr.drew.cell? ⟨bo, off + k * 14 + 12, none⟩ = some (.int .u32 (y0.fa : Nat)) ∧ wr.drew.cell? ⟨bo, off + k * 14 + 13, none⟩ = some (.int .u16 (y0.fb : Nat)) := ⟨g1, g12, g13⟩
                go_region_held3 (fun w' => w'.cell? ⟨bo, off + k * 14 + 1, none⟩ = some (.int .u8 (y0.pr : Nat)) ∧ w'.cell? ⟨bo, off + k * 14 + 12, none⟩ = some (.int .u32 (y0.fa : Nat)) ∧ w'.cell? ⟨bo, off + k * 14 + 13, none⟩ = some (.int .u16 (y0.fb : Nat)))
                  (first | exact dt | exact ds | exact dd)
                  (first
                    | (go_at_call 26; refine (dof_q (HP.out.quiet ((Upto.refl NoS wr).drew)) y0.pr y0.fa y0.fb HEI.out).mono ?_; rintro e w3 ⟨rfl, hu3⟩; have ds : w3.cell? ⟨bo, off + k * 14 + 1, none⟩ = some (.int .u8 (y0.pr : Nat)) ∧ w3.cell? ⟨bo, off + k * 14 + 12, none⟩ = some (.int .u32 (y0.fa : Nat)) ∧ w3.cell? ⟨bo, off + k * 14 + 13, none⟩ = some (.int .u16 (y0.fb : Nat)) := ⟨hu3.keep dd.1 id, hu3.keep dd.2.1 id, hu3.keep dd.2.2 id⟩; have hP3 := HP.out.quiet (((Upto.refl NoS wr).drew).trans hu3))
                    | (go_at_call 27; refine (downer_q hP3 y0.pr y0.fa y0.fb HEO.out).mono ?_; rintro e w5 ⟨rfl, hu5⟩; have dt : w5.cell? ⟨bo, off + k * 14 + 1, none⟩ = some (.int .u8 (y0.pr : Nat)) ∧ w5.cell? ⟨bo, off + k * 14 + 12, none⟩ = some (.int .u32 (y0.fa : Nat)) ∧ w5.cell? ⟨bo, off + k * 14 + 13, none⟩ = some (.int .u16 (y0.fb : Nat)) := ⟨hu5.keep ds.1 id, hu5.keep ds.2.1 id, hu5.keep ds.2.2 id⟩; have hP5 := hP3.quiet hu5))
                have HP5 := Lib.hid hP5
                have HG3 : Hid (Good (3 * (k + 1)) R2) := Lib.hid (by have := HG.out; rwa [show 3 * (k + 1) = 3 * k + 3 by omega])
                go_wp2_with fail
                go_roundw
                case rel =>
                  first
                    | exact ⟨k + 1, x2, R2, by omega, rfl, by go_num, HG3, Lib.hid ⟨O2, Oq2, HP5.out⟩⟩
                    | ((repeat apply Exists.intro); exact ⟨⟨k + 1, x2, R2, by omega, rfl, by go_num, HG3, Lib.hid ⟨O2, Oq2, HP5.out⟩⟩, rfl⟩)
                case measure => simp [intOf]; omega
      · obtain rfl : k = len := by omega
        have HU := Lib.hid hD.u
        clear hD
        go_wp2_with (go_at_call 8; refine (let_any _).mono ?_; rintro e w3 ⟨rfl, hu⟩)
        go_ret
        exact ⟨rfl, HU.out.trans hu⟩
end Go.Proofs.Ytfiblchdfacdiaa
