/- Ports' Copy, and Of where there is none: walked. -/
import Derived.Test.YtfiblchdfacdiaaOwnP
namespace Go.Proofs.Ytfiblchdfacdiaa
open Go Go.RowKit Go.Deep Go.Maps

set_option maxHeartbeats 1000000 in
theorem Of_no (w : World) (x rb ob : Nat) (T : List (Rw × Nat)) (p a b : Nat) (h : PsAt w x rb ob T) (hp : p < 256) (ha : a < 4294967296) (hb : b < 65536) (hf : fI T p a b = none) :
    Calls Try.prog 25 #[.pointer (some ⟨x, 0, none⟩), .int .u8 p, ev a b] w (Told (.tuple #[rwV rw0, .bool false]) w) := by
  have h2 := (h.alloc (.cells #[.int .u32 a, .int .u16 b] 26)).alloc (.cells zrw 42)
  have h3 := h2.alloc (.cells #[.int .u32 0, .int .u16 0] 26)
  have c1 := h2.c1
  have c3 := h3.c1
  have l1 := h2.drew.lookI_no hp ha hb hf
  have l2 := h3.drew.lookI_no hp ha hb hf
  have hF := (new_rw (w.alloc (.cells #[.int .u32 a, .int .u16 b] 26))).alloc (.cells #[.int .u32 0, .int .u16 0] 26)
  rw [World.size_alloc] at hF
  have HF := Lib.hid hF
  clear h3 hF
  go_enter Try.func25, Try.ntmps25
  go_wp2_with (go_at_call 29; refine (none_no _ _ _ _ _ h2).mono ?_; rintro e w' ⟨rfl, rfl⟩)
  go_region
  all_goals
    go_wp2
    (try simp only [Exit.inBlock, Exit.then])
    refine bodyPost_ret (res_rw (k := w.heap.size + 1) (r := rw0) Try.results25 _ rfl HF.out) rfl ⟨rfl, ?_⟩
    exact ((((Upto.refl _ _).alloc _).alloc _).alloc _).drew

theorem PsAt.laid {w w' : World} {x rb ob : Nat} {T : List (Rw × Nat)} (h : PsAt w x rb ob T) {r : Rw} {k : Nat} (hk : w.rowIs k 42 7 (rwF r)) (hnew : ∀ s ∈ T, s.2 ≠ k) (hok : r.Ok) (hu : Upto (fun i => i = rb ∨ i = ob) w w')
    (hm3 : MapAt Try.prog 72 w' rb (rowsL T ++ [(kv r.p r.oa r.ob, .pointer (some ⟨k, 0, none⟩))])) (hm4 : MapAt Try.prog 72 w' ob (ofL T ++ [(kv r.p r.ia r.ib, ev r.oa r.ob)])) : PsAt w' x rb ob (T ++ [(r, k)]) := by
  have hbk : ∀ (b : Nat) (f : Nat → Value), w.rowIs b 42 7 f → ¬ (b = rb ∨ b = ob) := fun b f hb e => e.elim (fun e => h.rows.ne_row hb e.symm) (fun e => h.of_.ne_row hb e.symm)
  have hx : ¬ (x = rb ∨ x = ob) := fun e => e.elim (fun e => h.rows.ne_row h.row e.symm) (fun e => h.of_.ne_row h.row e.symm)
  refine ⟨hu.row h.row hx, ?_, ?_, ?_, ?_, ?_, h.ne⟩
  · simpa [rowsL] using hm3
  · simpa [ofL] using hm4
  · intro s hs
    rcases List.mem_append.1 hs with hs | hs
    · exact hu.row (h.blk s hs) (hbk _ _ (h.blk s hs))
    · simp at hs
      subst hs
      exact hu.row hk (hbk _ _ hk)
  · rw [List.map_append, List.nodup_append]
    refine ⟨h.nodup, by simp, fun a ha b hb => ?_⟩
    simp at hb
    obtain ⟨s, hs, rfl⟩ := List.mem_map.1 ha
    rw [hb]
    exact hnew s hs
  · intro s hs
    rcases List.mem_append.1 hs with hs | hs
    · exact h.ok s hs
    · simp at hs
      subst hs
      exact hok
theorem own_rwc {w : World} {base q n c : Nat} {L : List Rw} (h : w.ownsRow base 42 7 (.slice (some ⟨q, 0, none⟩) n c) n (wcl L)) {j : Nat} (hj : j < L.length) :
    w.cell? ⟨q, j * 7, none⟩ = some (.int .u8 ((rwAt L j).p : Nat)) ∧ w.cell? ⟨q, j * 7 + 1, none⟩ = some (.int .u32 ((rwAt L j).oa : Nat)) ∧ w.cell? ⟨q, j * 7 + 2, none⟩ = some (.int .u16 ((rwAt L j).ob : Nat)) ∧ w.cell? ⟨q, j * 7 + 3, none⟩ = some (.int .u32 ((rwAt L j).ia : Nat)) ∧
      w.cell? ⟨q, j * 7 + 4, none⟩ = some (.int .u16 ((rwAt L j).ib : Nat)) ∧ w.cell? ⟨q, j * 7 + 5, none⟩ = some (.int .i64 ((rwAt L j).live : Nat)) ∧ w.cell? ⟨q, j * 7 + 6, none⟩ = some (.int .i64 ((rwAt L j).held : Nat)) := by
  have hc := fun i hi => by
    have := h.cells (g := q) rfl (j * 7 + i) _ (wcl_at L j hj i hi)
    rwa [Addr.add_lit, Nat.zero_add] at this
  exact ⟨hc 0 (by omega), hc 1 (by omega), hc 2 (by omega), hc 3 (by omega), hc 4 (by omega), hc 5 (by omega), hc 6 (by omega)⟩
theorem take_one (L : List Rw) {k : Nat} (hk : k < L.length) : L.take (k + 1) = L.take k ++ [rwAt L k] := by
  rw [List.take_succ_eq_append_getElem hk, rwAt_get L hk]
theorem noO_take {L : List Rw} (hk : KeyO L) {k : Nat} (hlt : k < L.length) {T : List (Rw × Nat)} (hT : T.map (·.1) = L.take k) : fO T (rwAt L k).p (rwAt L k).oa (rwAt L k).ob = none := by
  refine List.find?_eq_none.2 fun s hs => ?_
  have hm : s.1 ∈ L.take k := by rw [← hT]; exact List.mem_map_of_mem hs
  obtain ⟨i, hi, he⟩ := List.getElem_of_mem hm
  rw [List.getElem_take] at he
  have hik : i < k := by rw [List.length_take] at hi; omega
  have := List.pairwise_iff_getElem.1 hk i k (by omega) hlt hik
  rw [he, ← rwAt_get L hlt] at this
  simp only [Bool.and_eq_true, beq_iff_eq]
  exact fun e => this ⟨e.1.1, e.1.2, e.2⟩
theorem noI_take {L : List Rw} (hk : KeyI L) {k : Nat} (hlt : k < L.length) {T : List (Rw × Nat)} (hT : T.map (·.1) = L.take k) : fI T (rwAt L k).p (rwAt L k).ia (rwAt L k).ib = none := by
  refine List.find?_eq_none.2 fun s hs => ?_
  have hm : s.1 ∈ L.take k := by rw [← hT]; exact List.mem_map_of_mem hs
  obtain ⟨i, hi, he⟩ := List.getElem_of_mem hm
  rw [List.getElem_take] at he
  have hik : i < k := by rw [List.length_take] at hi; omega
  have := List.pairwise_iff_getElem.1 hk i k (by omega) hlt hik
  rw [he, ← rwAt_get L hlt] at this
  simp only [Bool.and_eq_true, beq_iff_eq]
  exact fun e => this ⟨e.1.1, e.1.2, e.2⟩
theorem own_cellsB {w : World} {base e size n : Nat} {v : Value} {xs : List Value} (h : w.ownsRow base e size v n xs) {b : Nat} (hb : v.ownBlock = some b) : ∃ cur, w.heap[b]? = some (.cells cur e) := by
  rcases h.2 with ⟨rfl, _⟩ | ⟨g, cap, cur, rfl, _, hg, _⟩
  · simp [Value.ownBlock] at hb
  · simp [Value.ownBlock] at hb
    subst hb
    exact ⟨cur, hg⟩
/-- What Copy has laid when k rows are done. -/
structure CpI (w wr : World) (x rb ob : Nat) (L : List Rw) (k : Nat) : Prop where
  u : Upto NoS w wr
  p : ∃ T, PsAt wr x rb ob T ∧ T.map (·.1) = L.take k ∧ ∀ s ∈ T, w.heap.size ≤ s.2
  lo : w.heap.size ≤ x ∧ w.heap.size ≤ rb ∧ w.heap.size ≤ ob
/-- What Copy leaves. -/
def CopyPost (w : World) (R : List Rw) (e : Ending) (w' : World) : Prop :=
  ∃ x2 rb2 ob2 T2, e = .returned (.pointer (some ⟨x2, 0, none⟩)) ∧ PsAt w' x2 rb2 ob2 T2 ∧ T2.map (·.1) = srt R ∧ Upto NoS w w' ∧ ∀ k, PsS x2 rb2 ob2 T2 k → w.heap.size ≤ k

set_option maxRecDepth 100000 in
set_option maxHeartbeats 4000000 in
theorem Copy_any (w : World) (x rb ob : Nat) (T : List (Rw × Nat)) (h : PsAt w x rb ob T) (hT : T.length ≤ 1000) :
    Calls Try.prog 22 #[.pointer (some ⟨x, 0, none⟩)] w (CopyPost w (T.map (·.1))) := by
  obtain ⟨R, hR⟩ : ∃ R, T.map (·.1) = R := ⟨_, rfl⟩
  obtain ⟨L, hL⟩ : ∃ L, srt R = L := ⟨_, rfl⟩
  obtain ⟨n, hn⟩ : ∃ n, L.length = n := ⟨_, rfl⟩
  have hRn : R.length = n := by rw [← hn, ← hL, srt_len]
  have hn1 : n ≤ 1000 := by rw [← hRn, ← hR]; simpa using hT
  have hkO : KeyO L := by rw [← hL, ← hR]; exact h.keyO.perm (srt_perm _).symm (fun {a b} h e => h ⟨e.1.symm, e.2.1.symm, e.2.2.symm⟩)
  have hkI : KeyI L := by rw [← hL, ← hR]; exact List.Pairwise.perm h.keyI (srt_perm _).symm (fun {a b} h e => h ⟨e.1.symm, e.2.1.symm, e.2.2.symm⟩)
  have hok : ∀ r ∈ L, r.Ok := fun r hr => by
    rw [← hL, ← hR] at hr
    obtain ⟨s, hs, rfl⟩ := List.mem_map.1 ((srt_perm _).mem_iff.1 hr)
    exact h.ok s hs
  have HKO := Lib.hid hkO
  have HKI := Lib.hid hkI
  have HOK := Lib.hid hok
  have HN := Lib.hid hn
  have hlist : ∀ W, PsAt W x rb ob T → Calls Try.prog 21 #[.pointer (some ⟨x, 0, none⟩)] W fun e w' => ∃ a c, e = .returned (.slice a n c) ∧ w'.ownsRow W.heap.size 42 7 (.slice a n c) n (wcl L) ∧ Upto NoS W w' := fun W hW => by
    have := List_any W x rb ob T hW (by omega)
    unfold ListPost at this
    rw [hR, hRn, hL] at this
    exact this
  have HLI := Lib.hid hlist
  rw [hR]
  unfold CopyPost
  rw [hL]
  have HH := Lib.hid h
  clear hkO hkI hok hlist hn hRn hL hR hT
  go_enter Try.func22, Try.ntmps22
  go_wp2_with (first
    | (go_at_call 29; refine (none_no _ _ _ _ _ h).mono ?_; rintro e w' ⟨rfl, rfl⟩)
    | (go_at_call 9; refine (New_any _).mono ?_; rintro e w1 ⟨x2, rb2, ob2, rfl, h2, u1, hx2, hrb2, hob2⟩; have h1 := h.upto u1)
    | (go_at_call 21; refine (HLI.out _ h1).mono ?_; rintro e w2 ⟨la, lc, rfl, ho2, u2⟩))
  have HI : Hid (CpI w w2 x2 rb2 ob2 L 0) := Lib.hid ⟨u1.trans u2, ⟨[], h2.upto u2, by simp, by simp⟩, ⟨hx2, hrb2, hob2⟩⟩
  have HO2 := Lib.hid ho2
  clear h h1 h2 u1 u2 ho2 hx2 hrb2 hob2
  go_loopw [12] (fun v wr => ∃ k : Nat, k ≤ n ∧ v = .int .i64 k ∧ Hid (CpI w wr x2 rb2 ob2 L k) ∧ Hid (wr.ownsRow w1.heap.size 42 7 (.slice la n lc) n (wcl L)) ∧ Hid (w2.heap.size ≤ wr.heap.size)) (fun v _ => n - (intOf v).toNat)
  case atStart => exact ⟨0, by omega, rfl, HI, HO2, Lib.hid (Nat.le_refl _)⟩
  case round =>
    clear HI HO2
    obtain ⟨k, hk, rfl, HI, HO, HS⟩ := hrel
    by_cases hlt : k < n
    · have ho := HO.out
      obtain ⟨q, cp, e8, _, _⟩ := own_form ho (by omega)
      simp only [Value.slice.injEq, true_and] at e8
      obtain ⟨rfl, rfl⟩ := e8
      have hkL : k < L.length := by rw [HN.out]; exact hlt
      obtain ⟨k0, k1, k2, k3, k4, k5, k6⟩ := own_rwc ho hkL
      obtain ⟨T2, hP2, hT2, hlo2⟩ := HI.out.p
      have hfO := noO_take HKO.out hkL hT2
      have hfI := noI_take HKI.out hkL hT2
      have hrok := HOK.out _ (rwAt_mem L hkL)
      have hTl : T2.length = k := by have := congrArg List.length hT2; simp at this; omega
      have HTK := Lib.hid (take_one L hkL)
      obtain ⟨r, hr⟩ : ∃ r, rwAt L k = r := ⟨_, rfl⟩
      rw [hr] at k0 k1 k2 k3 k4 k5 k6 hfO hfI hrok HTK
      have z0 : (0 : Int) ≤ (k : Int) := by omega
      have z1 : (k : Int) < (n : Int) := by omega
      obtain ⟨l1, hl1⟩ := key72 hrok.p hrok.oa hrok.ob
      obtain ⟨l2, hl2⟩ := key72 hrok.p hrok.ia hrok.ib
      have hN := new_r7 wr r
      have hUA : Upto NoS wr (wr.alloc (.cells #[.int .u8 (r.p : Nat), .int .u32 (r.oa : Nat), .int .u16 (r.ob : Nat), .int .u32 (r.ia : Nat), .int .u16 (r.ib : Nat), .int .i64 (r.live : Nat), .int .i64 (r.held : Nat)] 42)).drew := ((Upto.refl NoS wr).alloc _).drew
      have h3 := hP2.upto hUA
      have hN3 : (wr.alloc (.cells #[.int .u8 (r.p : Nat), .int .u32 (r.oa : Nat), .int .u16 (r.ob : Nat), .int .u32 (r.ia : Nat), .int .u16 (r.ib : Nat), .int .i64 (r.live : Nat), .int .i64 (r.held : Nat)] 42)).drew.rowIs wr.heap.size 42 7 (rwF r) := hN
      have hO3 := hUA.own ho (fun _ _ h => h)
      have hs3' := hUA.size
      have HU := Lib.hid (HI.out.u.trans hUA)
      have hnew : ∀ s ∈ T2, s.2 ≠ wr.heap.size := fun s hs e => by have := (hP2.blk s hs).lt; omega
      have hwl := HI.out.lo
      have hwr0 := HI.out.u.size
      have c0 := (hP2.alloc (.cells #[.int .u8 (r.p : Nat), .int .u32 (r.oa : Nat), .int .u16 (r.ob : Nat), .int .u32 (r.ia : Nat), .int .u16 (r.ib : Nat), .int .i64 (r.live : Nat), .int .i64 (r.held : Nat)] 42)).c0
      obtain ⟨m0, m1, m2, m3, m4, m5, m6⟩ := rw_cells hN
      obtain ⟨w3, hr3, hm3, hu3, hz3, _⟩ := h3.rows.store keyed72 Try.underlying65 (by simp [maxLen]; omega) (.pointer (some ⟨wr.heap.size, 0, none⟩)) hl1 (PsAt.fO_none hfO)
      have hxr : x2 ≠ rb2 := fun e => h3.rows.ne_row h3.row e.symm
      have hnr : wr.heap.size ≠ rb2 := fun e => h3.rows.ne_row hN3 e.symm
      have hrow4 := hu3.row hN3 (fun e => hnr e)
      obtain ⟨t0, t1, t2, t3, t4, t5, t6⟩ := rw_cells hrow4
      have c1 := hu3.keep h3.c1 (fun e => hxr e)
      have hm3o := (h3.of_.upto hu3 (fun e => h3.ne e.symm)).drew
      obtain ⟨w4, hr4, hm4, hu4, hz4, _⟩ := hm3o.store keyed72 Try.underlying66 (by simp [maxLen]; omega) (ev r.oa r.ob) hl2 (PsAt.fI_none hfI)
      have hu34 : Upto (fun i => i = rb2 ∨ i = ob2) (wr.alloc (.cells #[.int .u8 (r.p : Nat), .int .u32 (r.oa : Nat), .int .u16 (r.ob : Nat), .int .u32 (r.ia : Nat), .int .u16 (r.ib : Nat), .int .i64 (r.live : Nat), .int .i64 (r.held : Nat)] 42)).drew w4 := (hu3.mono (T := fun i => i = rb2 ∨ i = ob2) (fun _ _ h => .inl h)).drew.trans (hu4.mono (T := fun i => i = rb2 ∨ i = ob2) (fun _ _ h => .inr h))
      have hP4 := h3.laid hN3 hnew hrok hu34 (hm3.drew.upto hu4 (fun (e : rb2 = ob2) => h3.ne e)) hm4
      have HI4 : Hid (CpI w w4 x2 rb2 ob2 L (k + 1)) := Lib.hid ⟨HU.out.trans' hu34 (fun i hi e => by omega), ⟨_, hP4, by rw [List.map_append, hT2, HTK.out]; rfl, fun s hs => by
        rcases List.mem_append.1 hs with hs | hs
        · exact hlo2 s hs
        · simp at hs; subst hs; exact hwr0⟩, hwl⟩
      have HO4 : Hid (w4.ownsRow w1.heap.size 42 7 (.slice (some ⟨q, 0, none⟩) n lc) n (wcl L)) := Lib.hid (hu34.own hO3 (fun b hb e => by
        have hbl := hO3.lt b hb
        obtain ⟨cur, hcur⟩ := own_cellsB hO3 hb
        rcases e with e | e
        · subst e; exact h3.rows.ne_cells hcur rfl
        · subst e; exact h3.of_.ne_cells hcur rfl))
      have HS4 : Hid (w2.heap.size ≤ w4.heap.size) := Lib.hid (Nat.le_trans HS.out (Nat.le_trans hs3' hu34.size))
      clear hm4 hu4 hz4 hm3o hm3 hu3 hz3 hu34 hP4 hO3 hrow4 hN3 hN hUA HU hnew hwl hwr0 HTK hfO hfI hT2 hlo2 ho HO HI HS h3 hs3'
      go_wp2_with fail
      go_region
      go_wp2
      go_region
      go_wp2
      go_roundw
      case rel => exact ⟨k + 1, by omega, by go_num, HI4, HO4, HS4⟩
      case measure => simp [intOf]; omega
    · obtain rfl : k = n := by omega
      obtain ⟨T2, hP2, hT2, hlo2⟩ := HI.out.p
      have hwl := HI.out.lo
      have HU := Lib.hid HI.out.u
      have HP2 := Lib.hid hP2
      have hT3 : T2.map (·.1) = L := by rw [hT2, ← HN.out, List.take_length]
      clear hT2
      go_wp2_with fail
      go_ret
      refine ⟨x2, rb2, ob2, T2, rfl, HP2.out, hT3, HU.out, ?_⟩
      rintro i (e | e | e | ⟨s, hs, e⟩)
      · omega
      · omega
      · omega
      · have := hlo2 s hs; omega
end Go.Proofs.Ytfiblchdfacdiaa
