/- The reference's New, and the law's same, walked; both epochs side by side. -/
import Derived.Test.YtmmhjibgmpdjoaaRefC
namespace Go.Proofs.Ytmmhjibgmpdjoaa
open Go Go.RowKit Go.Deep Md

theorem icl_fresh (k : Nat) : icl (List.replicate (k + 1) (-1)) = icl (List.replicate k (-1)) ++ [.int .i64 (-1)] := by
  unfold icl; rw [List.replicate_succ', List.map_append]; rfl
def newF (v : Value) (i : Nat) : Value := if i = 0 then .int .i64 0 else if i = 1 then v else .slice none 0 0
def RNewPost (n : Nat) (w : World) (e : Ending) (w' : World) : Prop := ∃ s cs, e = .returned (.tuple #[.pointer (some ⟨w.heap.size, 0, none⟩), .int .i64 0]) ∧ RefAt w' w.heap.size s cs (.slice none 0 0) (fresh n) ∧ Upto NoS w w'
set_option maxRecDepth 100000 in
theorem New_r (w : World) (n : Nat) (h1 : 1 ≤ n) (h2 : n ≤ 64) : Calls Try.prog 9 #[.int .i64 n] w (RNewPost n w) := by
  obtain ⟨i0, hi, hz0, hz1, hz2⟩ := info_parts Try.info3
  go_enter Try.func9, Try.ntmps9
  go_wp2_with fail
  go_loopw [5] (fun i wr => ∃ (k : Nat) (v : Value), k ≤ n ∧ i = .int .i64 k ∧ wr.rowIs w.heap.size 54 3 (newF v) ∧ wr.ownsRow (w.heap.size + 1) 3 1 v k (icl (List.replicate k (-1))) ∧ Upto NoS w wr)
    (fun i _ => n - (intOf i).toNat)
  case atStart => exact ⟨0, _, by omega, rfl, World.rowIs_alloc _ _ _ _ (by intro i hi; match i, hi with | 0, _ => rfl | 1, _ => rfl | 2, _ => rfl), World.ownsRow_nil _ _ _ _, (Upto.refl _ _).alloc _⟩
  case round =>
    obtain ⟨k, v, hk, rfl, hR, hown, hU⟩ := hrel
    have hRl := hR.lt
    have r1 := hR.cell (i := 1) (by omega)
    simp only [newF] at r1
    by_cases hlt : k < n
    · go_wp2_with (at_builtin; refine wpList_append_own _ rfl (.tmp 23) (.tmp 24) 36 rfl (w.heap.size + 1) 3 i0 (.int .i64 0) 1 8 Try.underlying36 hi hz0 hz1 hz2 rfl (by decide) _ _ _ rfl (hown.alloc _) ⟨wr.heap.size, 0, none⟩ 1 1 [.int .i64 (-1)] rfl rfl ?c1 ?c2 ?c3 ?c4 ?c5 ?_)
      case c1 => exact one_new _ _ _
      case c2 => exact one_one _ _
      case c3 => unfold maxLen; omega
      case c4 => omega
      case c5 => simp; omega
      intro v' w4 hown4 hg4 _
      rw [← icl_fresh] at hown4
      have hne : ¬ (v.ownBlock = some w.heap.size) := fun h => own_ne hown (b := w.heap.size) (by omega) _ h rfl
      have R4 := (Upto.of_grown hg4).row (hR.alloc (.cells #[.int .i64 (-1)] 3)) hne
      have hU4 : Upto NoS w w4 := (hU.alloc (.cells #[.int .i64 (-1)] 3)).grown hg4 (fun j hj hlt => by have := (hown.lt j hj).1; omega)
      have r4 := R4.cell (i := 1) (by omega)
      have f4 := R4.frozen 1
      clear hg4
      obtain ⟨g4, cp4, rfl, _, _⟩ := own_form hown4 (by omega)
      go_wp2
      go_roundw
      case rel =>
        have hu5 : Upto (· = w.heap.size) w4 (w4.setCell ⟨w.heap.size, 1, none⟩ (.slice (some ⟨g4, 0, none⟩) (k + 1) cp4)) := (Upto.refl (fun x => x = w.heap.size) w4).setB rfl _
        refine ⟨k + 1, _, by omega, by go_num, (R4.set 1 (.slice (some ⟨g4, 0, none⟩) (k + 1) cp4)).congr (fun j hj => ?_), hu5.own hown4 (own_ne hown4 (by omega)), hU4.setNew (Nat.le_refl _) _⟩
        match j, hj with
        | 0, _ => rfl
        | 1, _ => rfl
        | 2, _ => rfl
      case measure => simp [intOf]; omega
    · obtain rfl : n = k := by omega
      obtain ⟨g, cp, rfl, hg1, hg2⟩ := own_form hown (by omega)
      have hl : (fresh n).ws.length = n := by simp [fresh]
      have HE := Lib.hid (show RefAt wr w.heap.size g cp (.slice none 0 0) (fresh n) from by
        refine ⟨hR.congr (fun i hi => ?_), by rw [hl]; exact hown, World.ownsRow_nil _ _ _ _, ⟨by show 0 ≤ _; omega, by rw [hl]; exact h1, by rw [hl]; exact h2, fun i => ?_, by show 0 ≤ _; omega, fun j hj => by simp [fresh] at hj⟩, fun _ => rfl⟩
        · rw [hl]
          match i, hi with
          | 0, _ => rfl
          | 1, _ => rfl
          | 2, _ => rfl
        · have : wAt (fresh n).ws i = -1 := wAt_fresh n i
          rw [this]; show _ ∧ _ ≤ ((0 : Nat) : Int); omega)
      clear hl
      go_wp2
      go_ret2
      exact ⟨g, cp, rfl, HE.out, hU⟩
theorem New_r_err (w : World) (n : Int) (h : n < 1 ∨ 64 < n) : Calls Try.prog 9 #[.int .i64 n] w fun e w' => e = .returned (.tuple #[.pointer none, .int .i64 2]) ∧ w = w' := by
  rcases h with h | h
  · go_enter Try.func9, Try.ntmps9
    go_wp2
    go_ret2
    exact ⟨rfl, rfl⟩
  · have h' : ¬ n < 1 := by omega
    go_enter Try.func9, Try.ntmps9
    go_wp2
    go_ret2
    exact ⟨rfl, rfl⟩

theorem ncl_cell {w : World} {base m c q : Nat} {R : List Nat} (h : w.ownsRow base 3 1 (.slice (some ⟨q, 0, none⟩) m c) m (ncl R)) (j : Nat) (hj : j < R.length) : w.cell? ⟨q, j, none⟩ = some (.int .i64 (R.getD j 0 : Nat)) := by
  have hc := h.cells (g := q) rfl j (.int .i64 (R.getD j 0 : Nat)) (by simp [ncl, hj])
  rw [Addr.add_lit, Nat.zero_add] at hc
  exact hc
theorem same_yes (w : World) (b1 b2 : Nat) (v1 v2 : Value) (R : List Nat) (h1 : w.ownsRow b1 3 1 v1 R.length (ncl R)) (h2 : w.ownsRow b2 3 1 v2 R.length (ncl R)) (hl : R.length ≤ 1000000) :
    Calls Try.prog 17 #[v1, v2] w (Told (.bool true) w) := by
  obtain ⟨a1, c1, rfl, k1⟩ := own_slice h1
  obtain ⟨a2, c2, rfl, k2⟩ := own_slice h2
  have K1 := Lib.hid k1
  have K2 := Lib.hid k2
  clear k1 k2
  go_enter Try.func17, Try.ntmps17
  go_wp2_with fail
  go_loopw [5] (fun v wr => ∃ k : Nat, k ≤ R.length ∧ v = .int .i64 k ∧ Upto NoS w wr) (fun v _ => R.length - (intOf v).toNat)
  case atStart => exact ⟨0, by omega, rfl, Upto.refl _ _⟩
  case round =>
    obtain ⟨k, hk, rfl, hu⟩ := hrel
    by_cases hlt : k < R.length
    · obtain ⟨q1, hq1⟩ := K1.out (by omega)
      obtain ⟨q2, hq2⟩ := K2.out (by omega)
      subst hq1
      subst hq2
      have s1 := hu.keep (ncl_cell h1 k hlt) id
      have s2 := hu.keep (ncl_cell h2 k hlt) id
      generalize R.getD k 0 = e at s1 s2
      have hne : ((e : Int) != (e : Int)) = false := by simp
      have z0 : (0 : Int) ≤ (k : Int) := by omega
      have z1 : (k : Int) < (R.length : Int) := by omega
      go_wp2_with fail
      go_quiet (fail)
      go_wp2
      go_roundw
      case rel => exact ⟨k + 1, by omega, by go_num, hu.drewN _⟩
      case measure => simp [intOf]; omega
    · go_wp2
      go_ret
      exact ⟨rfl, hu⟩

theorem row_apart {w : World} {b n base e size m : Nat} {t : TypeId} {f : Nat → Value} {v : Value} {xs : List Value} (h : w.rowIs b t n f) (h' : w.ownsRow base e size v m xs) (hne : t ≠ e) : v.ownBlock ≠ some b := by
  intro hb
  obtain ⟨c, hc, _⟩ := h
  rcases h'.2 with ⟨rfl, _⟩ | ⟨g, cap, cur, rfl, _, hg, _⟩
  · simp [Value.ownBlock] at hb
  · simp [Value.ownBlock] at hb
    subst hb
    rw [hc] at hg
    simp at hg
    exact hne hg.2

/-- Both, made since the world w0, each of a state of its own. -/
structure PP (w0 w : World) (x g : Nat) (vt : Value) (y s cs : Nat) (vl : Value) (E1 E2 : Ep) : Prop where
  ep : EpAt w x g vt E1
  rf : RefAt w y s cs vl E2
  bel : Upto NoS w0 w
  hg : w0.heap.size ≤ g
  xy : x < y
  hv : ∀ k, vt.ownBlock = some k → w0.heap.size ≤ k
  hl : ∀ k, vl.ownBlock = some k → w0.heap.size ≤ k
def PPO (w0 : World) (x g y s cs : Nat) (E1 E2 : Ep) (v : Value) (e : Ending) (w' : World) : Prop :=
  e = .returned v ∧ ∃ vt vl, PP w0 w' x g vt y s cs vl E1 E2
namespace PP
variable {w0 w w' : World} {x g : Nat} {vt vt' : Value} {y s cs : Nat} {vl vl' : Value} {E1 E2 E' : Ep}
theorem apart (h : PP w0 w x g vt y s cs vl E1 E2) (k : Nat) (h1 : EpS x g vt k) (h2 : RefS y s vl k) : False := by
  have hgx := h.ep.gx
  have hxy := h.xy
  have hys := h.rf.ys
  rcases h1 with e1 | e1 | e1 <;> rcases h2 with e2 | e2 | e2
  · omega
  · omega
  · have := h.rf.vl_ne e2; omega
  · omega
  · omega
  · have := h.rf.vl_ne e2; omega
  · subst e2; exact row_apart h.rf.row h.ep.wt (by decide) e1
  · subst e2; exact own_apart h.ep.wt h.rf.said (by decide) e1 rfl
  · exact own_apart h.ep.wt h.rf.wt (by decide) e1 e2
theorem low1 (h : PP w0 w x g vt y s cs vl E1 E2) (k : Nat) (h1 : EpS x g vt k) : w0.heap.size ≤ k := by
  have := h.hg; have := h.ep.gx
  rcases h1 with e | e | e
  · omega
  · omega
  · exact h.hv k e
theorem low2 (h : PP w0 w x g vt y s cs vl E1 E2) (k : Nat) (h1 : RefS y s vl k) : w0.heap.size ≤ k := by
  have := h.hg; have := h.ep.gx; have := h.xy; have := h.rf.ys
  rcases h1 with e | e | e
  · omega
  · omega
  · exact h.hl k e
theorem turn1 (h : PP w0 w x g vt y s cs vl E1 E2) (he : EpAt w' x g vt' E') (hu : Upto (EpS x g vt) w w') (ho : ∀ k, vt'.ownBlock = some k → vt.ownBlock = some k ∨ w.heap.size ≤ k) : PP w0 w' x g vt' y s cs vl E' E2 :=
  ⟨he, h.rf.gen hu (fun k h1 h2 => h.apart k h1 h2), h.bel.trans' hu (fun i hi hs => by have := h.low1 i hs; omega), h.hg, h.xy, fun k hk => by
    rcases ho k hk with e | e
    · exact h.hv k e
    · have := h.bel.size; omega, h.hl⟩
theorem turn2 (h : PP w0 w x g vt y s cs vl E1 E2) (he : RefAt w' y s cs vl' E') (hu : Upto (RefS y s vl) w w') (ho : ∀ k, vl'.ownBlock = some k → vl.ownBlock = some k ∨ w.heap.size ≤ k) : PP w0 w' x g vt y s cs vl' E1 E' :=
  ⟨h.ep.gen hu (fun k h1 h2 => h.apart k h2 h1), he, h.bel.trans' hu (fun i hi hs => by have := h.low2 i hs; omega), h.hg, h.xy, h.hv, fun k hk => by
    rcases ho k hk with e | e
    · exact h.hl k e
    · have := h.bel.size; omega⟩
theorem upto (h : PP w0 w x g vt y s cs vl E1 E2) (hu : Upto NoS w w') : PP w0 w' x g vt y s cs vl E1 E2 :=
  ⟨h.ep.upto hu, h.rf.upto hu, h.bel.trans hu, h.hg, h.xy, h.hv, h.hl⟩
end PP
section
variable {w0 w : World} {x g : Nat} {vt : Value} {y s cs : Nat} {vl : Value} {E1 E2 E' : Ep}
theorem PEnter (h : PP w0 w x g vt y s cs vl E1 E2) (i : Int) {v : Int} (hE : annSt E1 i E1.now = E') (hv : annE E1 i = v) : Calls Try.prog 11 #[.pointer (some ⟨x, 0, none⟩), .int .i64 i] w (PPO w0 x g y s cs E' E2 (.int .i64 v)) :=
  hE ▸ hv ▸ (Enter_any w x g vt E1 i h.ep).mono fun _ _ ⟨he, h1, hu⟩ => ⟨he, _, _, h.turn1 h1 hu (fun _ h => .inl h)⟩
theorem PEnterR (h : PP w0 w x g vt y s cs vl E1 E2) (i : Int) {v : Int} (hE : annSt E2 i E2.now = E') (hv : annE E2 i = v) : Calls Try.prog 12 #[.pointer (some ⟨y, 0, none⟩), .int .i64 i] w (PPO w0 x g y s cs E1 E' (.int .i64 v)) :=
  hE ▸ hv ▸ (Enter_r w y s cs vl E2 i h.rf).mono fun _ _ ⟨he, h1, hu⟩ => ⟨he, _, _, h.turn2 h1 hu (fun _ h => .inl h)⟩
theorem PLeave (h : PP w0 w x g vt y s cs vl E1 E2) (i : Int) {v : Int} (hE : annSt E1 i (-1) = E') (hv : annE E1 i = v) : Calls Try.prog 13 #[.pointer (some ⟨x, 0, none⟩), .int .i64 i] w (PPO w0 x g y s cs E' E2 (.int .i64 v)) :=
  hE ▸ hv ▸ (Leave_any w x g vt E1 i h.ep).mono fun _ _ ⟨he, h1, hu⟩ => ⟨he, _, _, h.turn1 h1 hu (fun _ h => .inl h)⟩
theorem PLeaveR (h : PP w0 w x g vt y s cs vl E1 E2) (i : Int) {v : Int} (hE : annSt E2 i (-1) = E') (hv : annE E2 i = v) : Calls Try.prog 14 #[.pointer (some ⟨y, 0, none⟩), .int .i64 i] w (PPO w0 x g y s cs E1 E' (.int .i64 v)) :=
  hE ▸ hv ▸ (Leave_r w y s cs vl E2 i h.rf).mono fun _ _ ⟨he, h1, hu⟩ => ⟨he, _, _, h.turn2 h1 hu (fun _ h => .inl h)⟩
theorem PAdv (h : PP w0 w x g vt y s cs vl E1 E2) {q : Bool} (hn : E1.now < 1000000) (hE : advSt E1 = E') (hv : advB E1 = q) : Calls Try.prog 15 #[.pointer (some ⟨x, 0, none⟩)] w (PPO w0 x g y s cs E' E2 (.bool q)) :=
  hE ▸ (Advance_any w x g vt E1 q h.ep hn hv).mono fun _ _ ⟨he, h1, hu⟩ => ⟨he, _, _, h.turn1 h1 hu (fun _ h => .inl h)⟩
theorem PAdvR (h : PP w0 w x g vt y s cs vl E1 E2) {q : Bool} (hn : E2.now < 1000000) (hE : advSt E2 = E') (hv : advB E2 = q) : Calls Try.prog 16 #[.pointer (some ⟨y, 0, none⟩)] w (PPO w0 x g y s cs E1 E' (.bool q)) :=
  hE ▸ (Advance_r w y s cs vl E2 q h.rf hn hv).mono fun _ _ ⟨he, h1, hu⟩ => ⟨he, _, _, h.turn2 h1 hu (fun _ h => .inl h)⟩
theorem PDef (h : PP w0 w x g vt y s cs vl E1 E2) (b : Int) {v : Int} (h1 : -9223372036854775808 ≤ b) (h2 : b ≤ 9223372036854775807) (hm : E1.wt.length < 1000000) (hE : defSt E1 b = E') (hv : defE E1 b = v) : Calls Try.prog 20 #[.pointer (some ⟨x, 0, none⟩), .int .i64 b] w (PPO w0 x g y s cs E' E2 (.int .i64 v)) :=
  hE ▸ hv ▸ (Defer_any w x g vt E1 b h.ep h1 h2 hm).mono fun _ _ ⟨he, _, h1, hu, ho⟩ => ⟨he, _, _, h.turn1 h1 hu ho⟩
theorem PDefR (h : PP w0 w x g vt y s cs vl E1 E2) (b : Int) {v : Int} (h1 : -9223372036854775808 ≤ b) (h2 : b ≤ 9223372036854775807) (hm : E2.wt.length < 1000000) (hE : defSt E2 b = E') (hv : defE E2 b = v) : Calls Try.prog 21 #[.pointer (some ⟨y, 0, none⟩), .int .i64 b] w (PPO w0 x g y s cs E1 E' (.int .i64 v)) :=
  hE ▸ hv ▸ (Defer_r w y s cs vl E2 b h.rf h1 h2 hm).mono fun _ _ ⟨he, _, h1, hu, ho⟩ => ⟨he, _, _, h.turn2 h1 hu ho⟩
def PPR (w0 w : World) (x g y s cs : Nat) (E1 E2 : Ep) (r : List Nat) (e : Ending) (w' : World) : Prop :=
  ∃ l vt vl, e = .returned l ∧ w'.ownsRow w.heap.size 3 1 l r.length (ncl r) ∧ PP w0 w' x g vt y s cs vl E1 E2
theorem PRipe (h : PP w0 w x g vt y s cs vl E1 E2) {r : List Nat} (hE : ripeSt E1 = E') (hr : ripe E1 = r) : Calls Try.prog 18 #[.pointer (some ⟨x, 0, none⟩)] w fun e w' => PPR w0 w x g y s cs E' E2 r e w' ∧ w.heap.size ≤ w'.heap.size ∧ (RefAt w y s cs vl E2) := by
  subst hE hr
  refine (Ripe_any w x g vt E1 h.ep).mono ?_
  rintro e w' ⟨l, vt', he, ho, h1, h2, h3⟩
  exact ⟨⟨l, vt', vl, he, ho, h.turn1 h1 h2 h3⟩, h2.size, h.rf⟩
/-- The reference's; a list that is told already stays as it is. -/
theorem PRipeR (h : PP w0 w x g vt y s cs vl E1 E2) {r r0 : List Nat} {l0 : Value} {b0 : Nat} (hl0 : w.ownsRow b0 3 1 l0 r0.length (ncl r0)) (hb0 : s < b0) (hE : ripeSt E2 = E') (hr : ripe E2 = r) : Calls Try.prog 19 #[.pointer (some ⟨y, 0, none⟩)] w fun e w' => PPR w0 w x g y s cs E1 E' r e w' ∧ w'.ownsRow b0 3 1 l0 r0.length (ncl r0) := by
  subst hE hr
  refine (Ripe_r w y s cs vl E2 h.rf).mono ?_
  rintro e w' ⟨l, vl', he, ho, h1, h2, h3⟩
  refine ⟨⟨l, vt, vl', he, ho, h.turn2 h1 h2 h3⟩, h2.own hl0 (fun k hk hs => ?_)⟩
  have hys := h.rf.ys
  have := (hl0.lt k hk).1
  rcases hs with e | e | e
  · omega
  · omega
  · exact own_apart hl0 h.rf.wt (by decide) hk e
theorem PNow (h : PP w0 w x g vt y s cs vl E1 E2) {n : Int} (hn : (E1.now : Int) = n) : Calls Try.prog 22 #[.pointer (some ⟨x, 0, none⟩)] w fun e w' => e = .returned (.int .i64 n) ∧ w = w' := hn ▸ Now_any w x g vt E1 h.ep
theorem PNowR (h : PP w0 w x g vt y s cs vl E1 E2) {n : Int} (hn : (E2.now : Int) = n) : Calls Try.prog 23 #[.pointer (some ⟨y, 0, none⟩)] w fun e w' => e = .returned (.int .i64 n) ∧ w = w' := hn ▸ Now_r w y s cs vl E2 h.rf
theorem PIn (h : PP w0 w x g vt y s cs vl E1 E2) (i : Int) {q : Bool} (hq : (seenI E1 i != -1) = q) : Calls Try.prog 24 #[.pointer (some ⟨x, 0, none⟩), .int .i64 i] w fun e w' => e = .returned (.bool q) ∧ w = w' := hq ▸ In_any w x g vt E1 i h.ep
theorem PInR (h : PP w0 w x g vt y s cs vl E1 E2) (i : Int) {q : Bool} (hq : (seenI E2 i != -1) = q) : Calls Try.prog 25 #[.pointer (some ⟨y, 0, none⟩), .int .i64 i] w fun e w' => e = .returned (.bool q) ∧ w = w' := hq ▸ In_r w y s cs vl E2 i h.rf
theorem PSeen (h : PP w0 w x g vt y s cs vl E1 E2) (i : Int) {n : Int} (hn : seenI E1 i = n) : Calls Try.prog 26 #[.pointer (some ⟨x, 0, none⟩), .int .i64 i] w fun e w' => e = .returned (.int .i64 n) ∧ w = w' := hn ▸ Seen_any w x g vt E1 i h.ep
theorem PSeenR (h : PP w0 w x g vt y s cs vl E1 E2) (i : Int) {n : Int} (hn : seenI E2 i = n) : Calls Try.prog 27 #[.pointer (some ⟨y, 0, none⟩), .int .i64 i] w fun e w' => e = .returned (.int .i64 n) ∧ w = w' := hn ▸ Seen_r w y s cs vl E2 i h.rf
theorem PWait (h : PP w0 w x g vt y s cs vl E1 E2) {n : Int} (hn : (E1.wt.length : Int) = n) : Calls Try.prog 28 #[.pointer (some ⟨x, 0, none⟩)] w fun e w' => e = .returned (.int .i64 n) ∧ w = w' := hn ▸ Waiting_any w x g vt E1 h.ep
theorem PWaitR (h : PP w0 w x g vt y s cs vl E1 E2) {n : Int} (hn : (E2.wt.length : Int) = n) : Calls Try.prog 29 #[.pointer (some ⟨y, 0, none⟩)] w fun e w' => e = .returned (.int .i64 n) ∧ w = w' := hn ▸ Waiting_r w y s cs vl E2 h.rf
end
end Go.Proofs.Ytmmhjibgmpdjoaa
