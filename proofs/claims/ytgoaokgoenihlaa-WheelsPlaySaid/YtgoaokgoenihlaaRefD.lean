/- The document's Cut, walked. -/
import Derived.Test.YtgoaokgoenihlaaRefC
import Derived.Test.YtgoaokgoenihlaaLastOp
namespace Go.Proofs.Ytgoaokgoenihlaa
open Go Go.RowKit Go.Deep Go.Maps

theorem Try.info77 : (Try.prog.info? 77).map (fun i => (i.zero, i.size, i.bytes)) = some (some (.agg #[.int .i64 0, .int .u32 0, .int .i64 0]), 3, 24) := by kernel_rfl
/-- What a method leaves that may lay its row anew. -/
def RNewP (y : Nat) (p : Option Addr) (R' : Rf) (w : World) (v : Value) (e : Ending) (w' : World) : Prop :=
  e = .returned v ∧ ∃ p' c', RIn w' y p' c' R' ∧ Upto (fun k => k = y) w w' ∧ ∀ k, LO p' k → LO p k ∨ w.heap.size ≤ k
theorem RIn.pl {w : World} {y : Nat} {p : Option Addr} {c : Nat} {R : Rf} (h : RIn w y p c R) : ∀ k, LO p k → k < w.heap.size := fun k hk => by
  obtain ⟨o, rfl⟩ := hk
  rcases h.l.at_ with ⟨e, _⟩ | ⟨q, o', e, hq, _⟩
  · cases e
  · cases e; exact hq
theorem LAt.drop' {w : World} {q o c : Nat} {L : List Tm} (h : LAt w (some ⟨q, o, none⟩) c L) {k : Nat} (hk : k ≤ L.length) : LAt w (if c = k then some ⟨q, o, none⟩ else some ⟨q, o + k * 3, none⟩) (c - k) (L.drop k) := by
  have hd := h.drop hk
  have hle := h.le
  by_cases hc : c = k
  · rw [if_pos hc]
    have hl : L.drop k = [] := List.eq_nil_of_length_eq_zero (by rw [List.length_drop]; omega)
    rw [hl]
    refine ⟨by simp, by simp [hc, maxLen], ?_⟩
    rcases h.at_ with ⟨e, _⟩ | ⟨q', o', ha, hq, _⟩
    · cases e
    · cases ha
      exact .inr ⟨q, o, rfl, hq, fun j u hj => by simp [rcl] at hj⟩
  · rw [if_neg hc]
    exact hd
theorem Cut_r_no (w : World) (y : Nat) (p : Option Addr) (c : Nat) (R : Rf) (a : Hn) (h : RIn w y p c R) (hf : ¬ fI R.L a < R.L.length) :
    Calls Try.prog 18 #[.pointer (some ⟨y, 0, none⟩), hv a] w (Told (.bool false) w) := by
  have hU : Upto NoS w (w.alloc (.cells #[.int .i64 a.s, .int .u32 (a.g : Nat)] 31)) := (Upto.refl _ w).alloc _
  have h1 := h.upto hU
  have n0 := new_1 w #[.int .i64 a.s, .int .u32 (a.g : Nat)] 31 0 (.int .i64 a.s) rfl
  have n1 := new_1 w #[.int .i64 a.s, .int .u32 (a.g : Nat)] 31 1 (.int .u32 (a.g : Nat)) rfl
  have hv : fV R.L a = -1 := by unfold fV; rw [if_neg hf]
  have HV := Lib.hid hv
  clear h hv hf
  go_enter Try.func18, Try.ntmps18
  go_wp2_with (go_at_call 31; refine (find_r _ y p c R a h1).mono ?_; rw [HV.out]; rintro e w' ⟨rfl, hu⟩)
  go_ret
  exact ⟨rfl, hU.trans hu⟩
set_option maxRecDepth 100000 in
set_option maxHeartbeats 400000 in
theorem Cut_r (w : World) (y : Nat) (p : Option Addr) (c : Nat) (R : Rf) (a : Hn) (h : RIn w y p c R) (hf : fI R.L a < R.L.length) :
    Calls Try.prog 18 #[.pointer (some ⟨y, 0, none⟩), hv a] w (RNewP y p ⟨R.last, R.L.take (fI R.L a) ++ R.L.drop (fI R.L a + 1)⟩ w (.bool true)) := by
  have hU : Upto NoS w (w.alloc (.cells #[.int .i64 a.s, .int .u32 (a.g : Nat)] 31)) := (Upto.refl _ w).alloc _
  have h1 := h.upto hU
  have hl := h.ok.many
  have n0 := new_1 w #[.int .i64 a.s, .int .u32 (a.g : Nat)] 31 0 (.int .i64 a.s) rfl
  have n1 := new_1 w #[.int .i64 a.s, .int .u32 (a.g : Nat)] 31 1 (.int .u32 (a.g : Nat)) rfl
  have hv : fV R.L a = (fI R.L a : Nat) := by unfold fV; rw [if_pos hf]
  have HV := Lib.hid hv
  obtain ⟨k, hk⟩ : ∃ k, fI R.L a = k := ⟨_, rfl⟩
  rw [hk] at HV hf ⊢
  obtain ⟨q, o, rfl, _⟩ := h.l.cells hf
  obtain ⟨nl, hnl⟩ : ∃ nl, R.L.length = nl := ⟨_, rfl⟩
  have hcl := h.l.le
  have hcm := h.l.cap
  rw [hnl] at hcl hf hl
  have z0 : (0 : Int) ≤ (k : Int) := by omega
  have z1 : (k : Int) < (nl : Int) := by omega
  have z2 : ¬ (k : Int) < 0 := by omega
  have kc : k ≤ c := by omega
  obtain ⟨k1, hk1⟩ : ∃ k1, k1 = k + 1 := ⟨_, rfl⟩
  have hwk : IntKind.i64.wrap ((k : Int) + 1) = (k1 : Int) := by rw [IntWalk.i64_in _ (by omega), hk1]; simp
  have hwl : (k1 : Int) ≤ (nl : Int) := by omega
  have hwm : k1 ≤ nl := by omega
  have hw0 : (0 : Int) ≤ (k1 : Int) := by omega
  have HK1 := Lib.hid hk1
  rw [← hk1]
  clear hk1
  have HH := Lib.hid h
  have HNL := Lib.hid hnl
  obtain ⟨i0, hi, hz0, hz1, hz2⟩ := info_parts Try.info77
  clear h hv hk hnl
  go_enter Try.func18, Try.ntmps18
  go_wp2_with (go_at_call 31; refine (find_r _ y (some ⟨q, o, none⟩) c R a h1).mono ?_; rw [HV.out]; rintro e w1 ⟨rfl, hu⟩; replace h1 := h1.upto hu)
  have hU1 := hU.trans hu
  have hc1 := h1.c1
  have hfz := h1.row.frozen 1
  rw [HNL.out] at hc1
  have H1 := Lib.hid h1.drew
  have HU1 := Lib.hid hU1.drew
  have hc1 : w1.drew.cell? ⟨y, 1, none⟩ = _ := hc1
  have hfz : w1.drew.frozen? ⟨y, 1, none⟩ = false := hfz
  clear h1 hU1 hu hU n0 n1
  have hle : (R.L.take k).length = k := by rw [List.length_take, HNL.out]; omega
  have hle2 : (R.L.drop k1).length = nl - k1 := by rw [List.length_drop, HNL.out]
  have hsrc1 : Src w1.drew (.slice (some ⟨q, o, none⟩) k c) k 3 (rcl (R.L.take k)) := by
    have := (H1.out.l.take (k := k) (by rw [HNL.out]; omega)).src
    rwa [hle] at this
  have hws := HU1.out.size
  have HLE2 := Lib.hid hle2
  have HLE := Lib.hid hle
  clear hle hle2
  refine E_start (S := fun w' => w'.cell? ⟨y, 1, none⟩ = some (.slice (some ⟨q, o, none⟩) nl c)) 18 (by kernel_rfl) hc1 (fun hHeld => ?_)
  refine E_take (i := 0) (v := ?_) rfl (by kernel_rfl) (by kernel_rfl) (by kernel_rfl) (by kernel_rfl) (fun _ _ _ h => h) (Or.inl ⟨by rfl, ?_⟩) (by assumption) ?_
  rotate_left
  · ((intro w hSw; (try dsimp only at hSw); go_simp); (try with_reducible rfl))
  try simp only [Act.put, List.getElem_toArray, List.getElem_cons_zero, List.getElem_cons_succ, List.setIfInBounds_toArray, List.set_cons_zero, List.set_cons_succ]
  refine E_take (i := 1) (v := ?_) rfl (by kernel_rfl) (by kernel_rfl) (by kernel_rfl) (by kernel_rfl) (fun _ _ _ h => h) (Or.inl ⟨by rfl, ?_⟩) (by assumption) ?_
  rotate_left
  · ((intro w hSw; (try dsimp only at hSw); go_simp); (try with_reducible rfl))
  try simp only [Act.put, List.getElem_toArray, List.getElem_cons_zero, List.getElem_cons_succ, List.setIfInBounds_toArray, List.set_cons_zero, List.set_cons_succ]
  refine E_take (i := 2) (v := ?_) rfl (by kernel_rfl) (by kernel_rfl) (by kernel_rfl) (by kernel_rfl) (fun _ _ _ h => h) (Or.inl ⟨by rfl, ?_⟩) (by assumption) ?_
  rotate_left
  · ((intro w hSw; (try dsimp only at hSw); go_simp); (try with_reducible rfl))
  try simp only [Act.put, List.getElem_toArray, List.getElem_cons_zero, List.getElem_cons_succ, List.setIfInBounds_toArray, List.set_cons_zero, List.set_cons_succ]
  refine E_take (i := 3) (v := ?_) rfl (by kernel_rfl) (by kernel_rfl) (by kernel_rfl) (by kernel_rfl) (fun _ _ _ h => h) (Or.inl ⟨by rfl, ?_⟩) (by assumption) ?_
  rotate_left
  · ((intro w hSw; (try dsimp only at hSw); go_simp); (try with_reducible rfl))
  try simp only [Act.put, List.getElem_toArray, List.getElem_cons_zero, List.getElem_cons_succ, List.setIfInBounds_toArray, List.set_cons_zero, List.set_cons_succ]
  refine E_take (i := 4) (v := ?_) rfl (by kernel_rfl) (by kernel_rfl) (by kernel_rfl) (by kernel_rfl) (fun _ _ _ h => h) (Or.inl ⟨by rfl, ?_⟩) (by assumption) ?_
  rotate_left
  · ((intro w hSw; (try dsimp only at hSw); go_simp); (try with_reducible rfl))
  try simp only [Act.put, List.getElem_toArray, List.getElem_cons_zero, List.getElem_cons_succ, List.setIfInBounds_toArray, List.set_cons_zero, List.set_cons_succ]
  refine E_take (i := 5) (v := ?_) rfl (by kernel_rfl) (by kernel_rfl) (by kernel_rfl) (by kernel_rfl) (fun _ _ _ h => h) (Or.inl ⟨by rfl, ?_⟩) (by assumption) ?_
  rotate_left
  · ((intro w hSw; (try dsimp only at hSw); go_simp); (try with_reducible rfl))
  try simp only [Act.put, List.getElem_toArray, List.getElem_cons_zero, List.getElem_cons_succ, List.setIfInBounds_toArray, List.set_cons_zero, List.set_cons_succ]
  refine E_take (i := 6) (v := ?_) rfl (by kernel_rfl) (by kernel_rfl) (by kernel_rfl) (by kernel_rfl) (fun _ _ _ h => h) (Or.inl ⟨by rfl, ?_⟩) (by assumption) ?_
  rotate_left
  · ((intro w hSw; (try dsimp only at hSw); go_simp); (try with_reducible rfl))
  try simp only [Act.put, List.getElem_toArray, List.getElem_cons_zero, List.getElem_cons_succ, List.setIfInBounds_toArray, List.set_cons_zero, List.set_cons_succ]
  refine E_take (i := 8) (v := ?_) rfl (by kernel_rfl) (by kernel_rfl) (by kernel_rfl) (by kernel_rfl) (fun _ _ _ h => h) (Or.inl ⟨by rfl, ?_⟩) (by assumption) ?_
  rotate_left
  · ((intro w hSw; (try dsimp only at hSw); go_simp); (try with_reducible rfl))
  try simp only [Act.put, List.getElem_toArray, List.getElem_cons_zero, List.getElem_cons_succ, List.setIfInBounds_toArray, List.set_cons_zero, List.set_cons_succ]
  refine E_take (i := 9) (v := ?_) rfl (by kernel_rfl) (by kernel_rfl) (by kernel_rfl) (by kernel_rfl) (fun _ _ _ h => h) (Or.inl ⟨by rfl, ?_⟩) (by assumption) ?_
  rotate_left
  · ((intro w hSw; (try dsimp only at hSw); go_simp); (try with_reducible rfl))
  try simp only [Act.put, List.getElem_toArray, List.getElem_cons_zero, List.getElem_cons_succ, List.setIfInBounds_toArray, List.set_cons_zero, List.set_cons_succ]
  refine E_take (i := 10) (v := ?_) rfl (by kernel_rfl) (by kernel_rfl) (by kernel_rfl) (by kernel_rfl) (fun _ _ _ h => h) (Or.inl ⟨by rfl, ?_⟩) (by assumption) ?_
  rotate_left
  · ((intro w hSw; (try dsimp only at hSw); go_simp); (try with_reducible rfl))
  try simp only [Act.put, List.getElem_toArray, List.getElem_cons_zero, List.getElem_cons_succ, List.setIfInBounds_toArray, List.set_cons_zero, List.set_cons_succ]
  refine E_take (i := 11) (v := ?_) rfl (by kernel_rfl) (by kernel_rfl) (by kernel_rfl) (by kernel_rfl) (fun _ _ _ h => h) (Or.inl ⟨by rfl, ?_⟩) (by assumption) ?_
  rotate_left
  · ((intro w hSw; (try dsimp only at hSw); go_simp); (try with_reducible rfl))
  try simp only [Act.put, List.getElem_toArray, List.getElem_cons_zero, List.getElem_cons_succ, List.setIfInBounds_toArray, List.set_cons_zero, List.set_cons_succ]
  refine E_take (i := 12) (v := ?_) rfl (by kernel_rfl) (by kernel_rfl) (by kernel_rfl) (by kernel_rfl) (fun _ _ _ h => h) (Or.inl ⟨by rfl, ?_⟩) (by assumption) ?_
  rotate_left
  · ((intro w hSw; (try dsimp only at hSw); go_simp); (try with_reducible rfl))
  try simp only [Act.put, List.getElem_toArray, List.getElem_cons_zero, List.getElem_cons_succ, List.setIfInBounds_toArray, List.set_cons_zero, List.set_cons_succ]
  refine E_take (i := 13) (v := .int .i64 (k1 : Nat)) rfl (by kernel_rfl) (by kernel_rfl) (by kernel_rfl) (by kernel_rfl) (fun _ _ _ h => h) (Or.inl ⟨by rfl, ?_⟩) (by assumption) ?_
  · (intro w hSw; (try dsimp only at hSw); go_simp; try (with_reducible rfl))
  try simp only [Act.put, List.getElem_toArray, List.getElem_cons_zero, List.getElem_cons_succ, List.setIfInBounds_toArray, List.set_cons_zero, List.set_cons_succ]
  refine E_take (i := 14) (v := .slice (if c = k1 then some ⟨q, o, none⟩ else some ⟨q, o + k1 * 3, none⟩) (nl - k1) (c - k1)) rfl (by kernel_rfl) (by kernel_rfl) (by kernel_rfl) (by kernel_rfl) (fun _ _ _ h => h) (Or.inl ⟨by rfl, ?_⟩) (by assumption) ?_
  · (intro w hSw; (try dsimp only at hSw); go_simp; try (with_reducible rfl))
  try simp only [Act.put, List.getElem_toArray, List.getElem_cons_zero, List.getElem_cons_succ, List.setIfInBounds_toArray, List.set_cons_zero, List.set_cons_succ]
  refine E_one (i := 7) (by kernel_rfl) rfl (fun K hK => ?_)
  refine step_append_src _ (by rfl) _ _ _ (by rfl) w.heap.size 77 i0 _ 3 24 Try.underlying53 hi hz0 hz1 hz2 rfl (by omega) (.slice none 0 0) 0 [] (by rfl) (World.ownsRow_nil _ _ _ _) (.slice (some ⟨q, o, none⟩) k c) k (rcl (R.L.take k)) (by rfl) hsrc1 (rcl_one _) (by unfold maxLen; omega) (by omega) (by omega) ?_
  intro v1 w2 hown1 hg1 hat1
  have hu1 : Upto NoS w1.drew w2 := (Upto.of_grown hg1).mono (fun k _ e => by simp [Value.ownBlock] at e)
  have hs2 : w.heap.size ≤ w2.heap.size := Nat.le_trans hws hu1.size
  simp only [Nat.zero_add, List.nil_append] at hown1
  obtain ⟨a1, c1, rfl, _⟩ := own_slice hown1
  have hf2 := (hu1.frozen (p := ⟨y, 1, none⟩) (H1.out.lt) id).trans hfz
  have hc2 := hu1.keep hc1 id
  have hsrc2 : Src w2 (.slice (if c = k1 then some ⟨q, o, none⟩ else some ⟨q, o + k1 * 3, none⟩) (nl - k1) (c - k1)) (nl - k1) 3 (rcl (R.L.drop k1)) := by
    have := ((H1.out.l.gen hu1 (fun _ h => h.elim)).drop' (k := k1) (by rw [HNL.out]; omega)).src
    rwa [HLE2.out] at this
  refine hK.out _ _ (.inr hc2) (fun hHeld => ?_)
  clear hK K
  try simp only [Act.put, List.getElem_toArray, List.getElem_cons_zero, List.getElem_cons_succ, List.setIfInBounds_toArray, List.set_cons_zero, List.set_cons_succ]
  refine E_one (i := 15) (by kernel_rfl) rfl (fun K hK => ?_)
  refine step_append_src _ (by rfl) _ _ _ (by rfl) w.heap.size 77 i0 _ 3 24 Try.underlying53 hi hz0 hz1 hz2 rfl (by omega) (.slice a1 k c1) k (rcl (R.L.take k)) (by rfl) hown1 _ (nl - k1) (rcl (R.L.drop k1)) (by rfl) hsrc2 (rcl_one _) (by unfold maxLen; omega) (by omega) (by omega) ?_
  intro v2 w3 hown2 hg2 hat2
  have hug2 := Upto.of_grown hg2
  obtain ⟨a2, c2, rfl, _⟩ := own_slice hown2
  have hb1 : ∀ b, (Value.slice a1 k c1).ownBlock = some b → w.heap.size ≤ b := fun b hb => (hown1.lt b hb).1
  have hyw := HH.out.lt
  have hny : ¬ (Value.slice a1 k c1).ownBlock = some y := fun e => by have := hb1 y e; omega
  have hf3 := (hug2.frozen (p := ⟨y, 1, none⟩) (Nat.lt_of_lt_of_le H1.out.lt hu1.size) hny).trans hf2
  have hc3 := hug2.keep hc2 hny
  refine hK.out _ _ (.inr hc3) (fun hHeld => ?_)
  clear hK K
  try simp only [Act.put, List.getElem_toArray, List.getElem_cons_zero, List.getElem_cons_succ, List.setIfInBounds_toArray, List.set_cons_zero, List.set_cons_succ]
  refine E_one (i := 16) (by kernel_rfl) rfl (fun K hK => ?_)
  go_simp
  refine hK.out _ _ (.inr hc3) (fun hHeld => ?_)
  clear hK K
  try simp only [Act.put, List.getElem_toArray, List.getElem_cons_zero, List.getElem_cons_succ, List.setIfInBounds_toArray, List.set_cons_zero, List.set_cons_succ]
  refine E_one (i := 17) (by kernel_rfl) rfl (fun K hK => ?_)
  go_simp
  refine hK.out _ _ (.inr hc3) (fun hHeld => ?_)
  clear hK K
  try simp only [Act.put, List.getElem_toArray, List.getElem_cons_zero, List.getElem_cons_succ, List.setIfInBounds_toArray, List.set_cons_zero, List.set_cons_succ]
  refine E_one (i := 18) (by kernel_rfl) rfl (fun K hK => ?_)
  go_simp
  refine hK.out _ _ (.inl rfl) (fun hHeld => ?_)
  clear hK K
  try simp only [Act.put, List.getElem_toArray, List.getElem_cons_zero, List.getElem_cons_succ, List.setIfInBounds_toArray, List.set_cons_zero, List.set_cons_succ]
  refine E_done (by kernel_rfl) ?_ _
  have HEND : RIn (w3.setCell ⟨y, 1, none⟩ (.slice a2 (k + (nl - k1)) c2)) y a2 c2 ⟨R.last, R.L.take k ++ R.L.drop k1⟩ ∧ Upto (fun k => k = y) w (w3.setCell ⟨y, 1, none⟩ (.slice a2 (k + (nl - k1)) c2)) ∧ ∀ j, LO a2 j → LO (some ⟨q, o, none⟩) j ∨ w.heap.size ≤ j := by
    have hk1 := HK1.out
    have hlen : (R.L.take k ++ R.L.drop k1).length = k + (nl - k1) := by rw [List.length_append, HLE.out, HLE2.out]
    have hU3 : Upto (fun k => k = y) w w3 := (((HU1.out.trans hu1).mono (fun _ _ h => h.elim)).trans' hug2 (fun b hb e => by have := hb1 b e; omega))
    rw [← rcl_append, ← hlen] at hown2
    have hl2 := LAt.own hown2
    have hlo : ∀ j, LO a2 j → w.heap.size ≤ j := fun j hj => by
      obtain ⟨o', rfl⟩ := hj
      exact (hown2.lt j rfl).1
    have hX : Upto (fun k => w.heap.size ≤ k) w1.drew w3 := (hu1.mono (fun _ _ h => h.elim)).trans' hug2 (fun b _ e => hb1 b e)
    have hR3 : RIn w3 y (some ⟨q, o, none⟩) c R := H1.out.gen hX (fun b hb e => by
      rcases e with e | e
      · omega
      · have := HH.out.pl b e; omega)
    refine ⟨?_, hU3.setB rfl _, fun j hj => .inr (hlo j hj)⟩
    have := hR3.setL hl2 (fun j hj => by have := hlo j hj; omega) (fun t ht => ?_) (by rw [hlen]; omega)
    · rwa [hlen] at this
    · rcases List.mem_append.1 ht with h | h
      · exact HH.out.ok.each t (List.mem_of_mem_take h)
      · exact HH.out.ok.each t (List.mem_of_mem_drop h)
  go_wp2
  all_goals
    go_ret
    exact ⟨rfl, _, _, HEND⟩
end Go.Proofs.Ytgoaokgoenihlaa
