/- The document's Put, walked. -/
import Derived.Test.YtgoaokgoenihlaaRefD
namespace Go.Proofs.Ytgoaokgoenihlaa
open Go Go.RowKit Go.Deep Go.Maps

/-- Where one is put. -/
def iI (L : List Tm) (x : Tm) : Nat := (L.takeWhile fun t => tlt t x).length
def Rf.ins (R : Rf) (x : Tm) : Rf := ⟨R.last, R.L.take (iI R.L x) ++ [x] ++ R.L.drop (iI R.L x)⟩
theorem iI_le (L : List Tm) (x : Tm) : iI L x ≤ L.length := by
  unfold iI
  exact (List.takeWhile_sublist _).length_le
theorem take_while_len {α : Type} {p : α → Bool} : ∀ {L : List α} {k : Nat}, k ≤ L.length → (∀ j, j < k → ∀ h : j < L.length, p L[j] = true) → (∀ h : k < L.length, p L[k] = false) → (L.takeWhile p).length = k
  | [], k, hk, _, _ => by simp at hk; simp [hk]
  | a :: l, 0, _, _, h => by
    have := h (by simp)
    simp at this
    simp [this]
  | a :: l, k + 1, hk, h1, h2 => by
    have ha := h1 0 (by omega) (by simp)
    simp at ha
    have ih := take_while_len (p := p) (L := l) (k := k) (by simpa using hk) (fun j hj h => by have := h1 (j + 1) (by omega) (by simpa using h); simpa using this) (fun h => by have := h2 (by simpa using h); simpa using this)
    simp [ha, ih]
theorem Put_r_arg (w : World) (y : Nat) (p : Option Addr) (c : Nat) (R : Rf) (a : Hn) (d : Int) (h : RIn w y p c R) (hd : d < 0 ∨ 1099511627776 < d) :
    Calls Try.prog 20 #[.pointer (some ⟨y, 0, none⟩), hv a, .int .i64 d] w (Told (.int .i64 2) w) := by
  have hU : Upto NoS w (w.alloc (.cells #[.int .i64 a.s, .int .u32 (a.g : Nat)] 31)) := (Upto.refl _ w).alloc _
  clear h
  by_cases h1 : d < 0
  · go_enter Try.func20, Try.ntmps20
    go_wp2
    go_ret
    exact ⟨rfl, hU⟩
  · have h2 : 1099511627776 < d := by omega
    go_enter Try.func20, Try.ntmps20
    go_wp2
    go_ret
    exact ⟨rfl, hU⟩
theorem Put_r_have (w : World) (y : Nat) (p : Option Addr) (c : Nat) (R : Rf) (a : Hn) (d : Nat) (h : RIn w y p c R) (hd : d ≤ 1099511627776) (hf : fI R.L a < R.L.length) :
    Calls Try.prog 20 #[.pointer (some ⟨y, 0, none⟩), hv a, .int .i64 (d : Nat)] w (Told (.int .i64 7) w) := by
  have hU : Upto NoS w (w.alloc (.cells #[.int .i64 a.s, .int .u32 (a.g : Nat)] 31)) := (Upto.refl _ w).alloc _
  have h1 := h.upto hU
  have n0 := new_1 w #[.int .i64 a.s, .int .u32 (a.g : Nat)] 31 0 (.int .i64 a.s) rfl
  have n1 := new_1 w #[.int .i64 a.s, .int .u32 (a.g : Nat)] 31 1 (.int .u32 (a.g : Nat)) rfl
  have hv : fV R.L a = (fI R.L a : Nat) := by unfold fV; rw [if_pos hf]
  have HV := Lib.hid hv
  obtain ⟨k, hk⟩ : ∃ k, fI R.L a = k := ⟨_, rfl⟩
  rw [hk] at HV
  have z0 : (0 : Int) ≤ (k : Int) := by omega
  have d1 : ¬ (d : Int) < 0 := by omega
  have d2 : ¬ (1099511627776 : Int) < (d : Int) := by omega
  clear h hv hk hf
  go_enter Try.func20, Try.ntmps20
  go_wp2_with (go_at_call 31; refine (find_r _ y p c R a h1).mono ?_; rw [HV.out]; rintro e w' ⟨rfl, hu⟩)
  go_ret
  exact ⟨rfl, hU.trans hu⟩
set_option maxRecDepth 100000 in
set_option maxHeartbeats 2000000 in
theorem Put_r (w : World) (y : Nat) (p : Option Addr) (c : Nat) (R : Rf) (a : Hn) (d : Nat) (h : RIn w y p c R) (ha : a.Ok) (hd : d ≤ 1099511627776) (hf : ¬ fI R.L a < R.L.length) (hm : R.L.length < 1000000) :
    Calls Try.prog 20 #[.pointer (some ⟨y, 0, none⟩), hv a, .int .i64 (d : Nat)] w (RNewP y p (R.ins ⟨d, a⟩) w (.int .i64 0)) := by
  have hU : Upto NoS w (w.alloc (.cells #[.int .i64 a.s, .int .u32 (a.g : Nat)] 31)) := (Upto.refl _ w).alloc _
  have h1 := h.upto hU
  have n0 := new_1 w #[.int .i64 a.s, .int .u32 (a.g : Nat)] 31 0 (.int .i64 a.s) rfl
  have n1 := new_1 w #[.int .i64 a.s, .int .u32 (a.g : Nat)] 31 1 (.int .u32 (a.g : Nat)) rfl
  have hv : fV R.L a = -1 := by unfold fV; rw [if_neg hf]
  have HV := Lib.hid hv
  have d1 : ¬ (d : Int) < 0 := by omega
  have d2 : ¬ (1099511627776 : Int) < (d : Int) := by omega
  have HH := Lib.hid h
  obtain ⟨i0, hi, hz0, hz1, hz2⟩ := info_parts Try.info77
  have hcm := h.l.cap
  have hcl := h.l.le
  clear h hv hf
  go_enter Try.func20, Try.ntmps20
  go_wp2_with (go_at_call 31; refine (find_r _ y p c R a h1).mono ?_; rw [HV.out]; rintro e w1 ⟨rfl, hu⟩; replace h1 := h1.upto hu; replace n0 := hu.keep n0 id; replace n1 := hu.keep n1 id; replace hU := hU.trans hu)
  have hX := new_1 w1 (rcs ⟨d, a⟩).toArray 77
  have x0 := hX 0 _ rfl
  have x1 := hX 1 _ rfl
  have x2 := hX 2 _ rfl
  have hU2 := hU.alloc (.cells (rcs ⟨d, a⟩).toArray 77)
  have h2 := h1.alloc (.cells (rcs ⟨d, a⟩).toArray 77)
  clear hX n0 n1 h1 hU hu
  have hbx : w1.heap.size < (w1.alloc (.cells (rcs ⟨d, a⟩).toArray 77)).heap.size := by simp
  generalize w1.alloc (.cells #[.int .i64 a.s, .int .u32 (a.g : Nat), .int .i64 (d : Nat)] 77) = W at x0 x1 x2 hU2 h2 hbx ⊢
  generalize w1.heap.size = bx at x0 x1 x2 hbx ⊢
  have HU2 := Lib.hid hU2
  have H2 := Lib.hid h2
  clear h2 hU2
  go_loopw [8] (fun i wr => ∃ k : Nat, k ≤ R.L.length ∧ i = .int .i64 k ∧ Hid (Upto NoS W wr) ∧ Hid (∀ j, j < k → ∀ h : j < R.L.length, tlt R.L[j] ⟨d, a⟩ = true)) (fun i _ => R.L.length - (intOf i).toNat)
  case atStart => exact ⟨0, by omega, rfl, Lib.hid (Upto.refl _ _), Lib.hid (fun j hj => by omega)⟩
  case round =>
    obtain ⟨k, hk, rfl, HW, HL⟩ := hrel
    have y0 := HW.out.keep x0 id
    have y1 := HW.out.keep x1 id
    have y2 := HW.out.keep x2 id
    have hw := HW.out
    have h3 := H2.out.upto hw
    have hc1 := h3.c1
    by_cases hlt : k < R.L.length
    · obtain ⟨q, o, rfl, e0, e1, e2⟩ := h3.l.cells hlt
      have z0 : (0 : Int) ≤ (k : Int) := by omega
      have z1 : (k : Int) < (R.L.length : Int) := by omega
      have hgt := tm_at R.L k hlt
      clear hw h3
      cases hq : tlt ⟨td R.L k, ⟨ts R.L k, tg R.L k⟩⟩ ⟨d, a⟩
      · have HQ := Lib.hid hq
        clear hq
        go_upto_region 6 with (fail)
        go_region_held3 (fun w' => w'.cell? ⟨y, 1, none⟩ = some (.slice (some ⟨q, o, none⟩) R.L.length c) ∧ w'.cell? ⟨q, o + k * 3, none⟩ = some (.int .i64 (ts R.L k)) ∧ w'.cell? ⟨q, o + k * 3 + 1, none⟩ = some (.int .u32 (tg R.L k : Nat)) ∧ w'.cell? ⟨q, o + k * 3 + 2, none⟩ = some (.int .i64 (td R.L k : Nat)) ∧ w'.cell? ⟨bx, 0, none⟩ = some (.int .i64 a.s) ∧ w'.cell? ⟨bx, 1, none⟩ = some (.int .u32 (a.g : Nat)) ∧ w'.cell? ⟨bx, 2, none⟩ = some (.int .i64 (d : Nat)))
          (first | exact ⟨hc1, e0, e1, e2, y0, y1, y2⟩ | exact ⟨hu9.keep hc1 id, hu9.keep e0 id, hu9.keep e1 id, hu9.keep e2 id, hu9.keep y0 id, hu9.keep y1 id, hu9.keep y2 id⟩)
          (first | (go_at_call 32; (with_reducible refine (ahead_r _ ⟨td R.L k, ⟨ts R.L k, tg R.L k⟩⟩ ⟨d, a⟩).mono ?_); rw [HQ.out]; rintro e w9 ⟨rfl, hu9⟩))
        go_wp2_with fail
        have hUw : Upto NoS W w9 := HW.out.drew.trans hu9
        have HNK : Hid (k ≤ R.L.length ∧ iI R.L ⟨d, a⟩ = k) := Lib.hid ⟨by omega, take_while_len (by omega) (fun j hj h => HL.out j hj h) (fun _ => by have := HQ.out; rwa [hgt] at this)⟩
        clear hc1 e0 e1 e2 y0 y1 y2 hgt HL HQ HW hu9 hk
        generalize w9 = V at hUw ⊢
        obtain ⟨nl, hnl⟩ : ∃ nl, R.L.length = nl := ⟨_, rfl⟩
        rw [hnl] at HNK hm hcl
        have HNL := Lib.hid hnl
        have hbxV : bx < V.heap.size := Nat.lt_of_lt_of_le hbx hUw.size
        clear hnl hlt z0 z1
        have H3 := Lib.hid (H2.out.upto hUw)
        have hc1 := H3.out.c1
        have hfz := H3.out.row.frozen 1
        rw [HNL.out] at hc1
        have y0 := hUw.keep x0 id
        have y1 := hUw.keep x1 id
        have y2 := hUw.keep x2 id
        have HU3 := Lib.hid (HU2.out.trans hUw)
        have hws := HU3.out.size
        have hle := HNK.out.1
        have HLE : Hid ((R.L.take k).length = k) := Lib.hid (by rw [List.length_take, HNL.out]; omega)
        have HLE2 : Hid ((R.L.drop k).length = nl - k) := Lib.hid (by rw [List.length_drop, HNL.out])
        have hyw := HH.out.lt
        have hyV := H3.out.lt
        have kc : k ≤ c := by omega
        have kz : (0 : Int) ≤ (k : Int) := by omega
        have kl : (k : Int) ≤ (nl : Int) := by omega
        refine E_start (S := fun w' => w'.cell? ⟨y, 1, none⟩ = some (.slice (some ⟨q, o, none⟩) nl c) ∧ w'.cell? ⟨bx, 0, none⟩ = some (.int .i64 a.s) ∧ w'.cell? ⟨bx, 1, none⟩ = some (.int .u32 (a.g : Nat)) ∧ w'.cell? ⟨bx, 2, none⟩ = some (.int .i64 (d : Nat))) 20 (by kernel_rfl) ⟨hc1, y0, y1, y2⟩ (fun hHeld => ?_)
        refine E_take (i := 0) (v := ?_) rfl (by kernel_rfl) (by kernel_rfl) (by kernel_rfl) (by kernel_rfl) (fun _ _ _ h => h) (Or.inl ⟨by rfl, ?_⟩) (by assumption) ?_
        rotate_left
        · ((intro w hSw; (try dsimp only at hSw); go_simp); (try with_reducible rfl))
        try simp only [Act.put, List.getElem_toArray, List.getElem_cons_zero, List.getElem_cons_succ, List.setIfInBounds_toArray, List.set_cons_zero, List.set_cons_succ]
        refine E_take (i := 1) (v := ?_) rfl (by kernel_rfl) (by kernel_rfl) (by kernel_rfl) (by kernel_rfl) (fun _ _ _ h => h) (Or.inl ⟨by rfl, ?_⟩) (by assumption) ?_
        rotate_left
        · ((intro w hSw; (try dsimp only at hSw); go_simp); (try with_reducible rfl))
        try simp only [Act.put, List.getElem_toArray, List.getElem_cons_zero, List.getElem_cons_succ, List.setIfInBounds_toArray, List.set_cons_zero, List.set_cons_succ]
        refine E_take (i := 2) (v := ?_) rfl (by kernel_rfl) (by kernel_rfl) (by kernel_rfl) (by kernel_rfl) (fun _ _ _ h => h) (Or.inl ⟨by rfl, ?_⟩) (by assumption) ?_
        rotate_left
        · ((intro w hSw; (try dsimp only at hSw); go_simp); (try with_reducible rfl))
        try simp only [Act.put, List.getElem_toArray, List.getElem_cons_zero, List.getElem_cons_succ, List.setIfInBounds_toArray, List.set_cons_zero, List.set_cons_succ]
        refine E_take (i := 3) (v := ?_) rfl (by kernel_rfl) (by kernel_rfl) (by kernel_rfl) (by kernel_rfl) (fun _ _ _ h => h) (Or.inl ⟨by rfl, ?_⟩) (by assumption) ?_
        rotate_left
        · ((intro w hSw; (try dsimp only at hSw); go_simp); (try with_reducible rfl))
        try simp only [Act.put, List.getElem_toArray, List.getElem_cons_zero, List.getElem_cons_succ, List.setIfInBounds_toArray, List.set_cons_zero, List.set_cons_succ]
        refine E_take (i := 4) (v := ?_) rfl (by kernel_rfl) (by kernel_rfl) (by kernel_rfl) (by kernel_rfl) (fun _ _ _ h => h) (Or.inl ⟨by rfl, ?_⟩) (by assumption) ?_
        rotate_left
        · ((intro w hSw; (try dsimp only at hSw); go_simp); (try with_reducible rfl))
        try simp only [Act.put, List.getElem_toArray, List.getElem_cons_zero, List.getElem_cons_succ, List.setIfInBounds_toArray, List.set_cons_zero, List.set_cons_succ]
        refine E_take (i := 5) (v := ?_) rfl (by kernel_rfl) (by kernel_rfl) (by kernel_rfl) (by kernel_rfl) (fun _ _ _ h => h) (Or.inl ⟨by rfl, ?_⟩) (by assumption) ?_
        rotate_left
        · ((intro w hSw; (try dsimp only at hSw); go_simp); (try with_reducible rfl))
        try simp only [Act.put, List.getElem_toArray, List.getElem_cons_zero, List.getElem_cons_succ, List.setIfInBounds_toArray, List.set_cons_zero, List.set_cons_succ]
        refine E_take (i := 6) (v := .slice (some ⟨q, o, none⟩) k c) rfl (by kernel_rfl) (by kernel_rfl) (by kernel_rfl) (by kernel_rfl) (fun _ _ _ h => h) (Or.inl ⟨by rfl, ?_⟩) (by assumption) ?_
        · (intro w hSw; (try dsimp only at hSw); go_simp; try (with_reducible rfl))
        try simp only [Act.put, List.getElem_toArray, List.getElem_cons_zero, List.getElem_cons_succ, List.setIfInBounds_toArray, List.set_cons_zero, List.set_cons_succ]
        refine E_take (i := 8) (v := ?_) rfl (by kernel_rfl) (by kernel_rfl) (by kernel_rfl) (by kernel_rfl) (fun _ _ _ h => h) (Or.inl ⟨by rfl, ?_⟩) (by assumption) ?_
        rotate_left
        · ((intro w hSw; (try dsimp only at hSw); go_simp); (try with_reducible rfl))
        try simp only [Act.put, List.getElem_toArray, List.getElem_cons_zero, List.getElem_cons_succ, List.setIfInBounds_toArray, List.set_cons_zero, List.set_cons_succ]
        refine E_take (i := 11) (v := ?_) rfl (by kernel_rfl) (by kernel_rfl) (by kernel_rfl) (by kernel_rfl) (fun _ _ _ h => h) (Or.inl ⟨by rfl, ?_⟩) (by assumption) ?_
        rotate_left
        · ((intro w hSw; (try dsimp only at hSw); go_simp); (try with_reducible rfl))
        try simp only [Act.put, List.getElem_toArray, List.getElem_cons_zero, List.getElem_cons_succ, List.setIfInBounds_toArray, List.set_cons_zero, List.set_cons_succ]
        refine E_take (i := 12) (v := ?_) rfl (by kernel_rfl) (by kernel_rfl) (by kernel_rfl) (by kernel_rfl) (fun _ _ _ h => h) (Or.inl ⟨by rfl, ?_⟩) (by assumption) ?_
        rotate_left
        · ((intro w hSw; (try dsimp only at hSw); go_simp); (try with_reducible rfl))
        try simp only [Act.put, List.getElem_toArray, List.getElem_cons_zero, List.getElem_cons_succ, List.setIfInBounds_toArray, List.set_cons_zero, List.set_cons_succ]
        refine E_take (i := 13) (v := ?_) rfl (by kernel_rfl) (by kernel_rfl) (by kernel_rfl) (by kernel_rfl) (fun _ _ _ h => h) (Or.inl ⟨by rfl, ?_⟩) (by assumption) ?_
        rotate_left
        · ((intro w hSw; (try dsimp only at hSw); go_simp); (try with_reducible rfl))
        try simp only [Act.put, List.getElem_toArray, List.getElem_cons_zero, List.getElem_cons_succ, List.setIfInBounds_toArray, List.set_cons_zero, List.set_cons_succ]
        refine E_take (i := 14) (v := ?_) rfl (by kernel_rfl) (by kernel_rfl) (by kernel_rfl) (by kernel_rfl) (fun _ _ _ h => h) (Or.inl ⟨by rfl, ?_⟩) (by assumption) ?_
        rotate_left
        · ((intro w hSw; (try dsimp only at hSw); go_simp); (try with_reducible rfl))
        try simp only [Act.put, List.getElem_toArray, List.getElem_cons_zero, List.getElem_cons_succ, List.setIfInBounds_toArray, List.set_cons_zero, List.set_cons_succ]
        refine E_take (i := 15) (v := ?_) rfl (by kernel_rfl) (by kernel_rfl) (by kernel_rfl) (by kernel_rfl) (fun _ _ _ h => h) (Or.inl ⟨by rfl, ?_⟩) (by assumption) ?_
        rotate_left
        · ((intro w hSw; (try dsimp only at hSw); go_simp); (try with_reducible rfl))
        try simp only [Act.put, List.getElem_toArray, List.getElem_cons_zero, List.getElem_cons_succ, List.setIfInBounds_toArray, List.set_cons_zero, List.set_cons_succ]
        refine E_take (i := 16) (v := .slice (if c = k then some ⟨q, o, none⟩ else some ⟨q, o + k * 3, none⟩) (nl - k) (c - k)) rfl (by kernel_rfl) (by kernel_rfl) (by kernel_rfl) (by kernel_rfl) (fun _ _ _ h => h) (Or.inl ⟨by rfl, ?_⟩) (by assumption) ?_
        · (intro w hSw; (try dsimp only at hSw); go_simp; try (with_reducible rfl))
        try simp only [Act.put, List.getElem_toArray, List.getElem_cons_zero, List.getElem_cons_succ, List.setIfInBounds_toArray, List.set_cons_zero, List.set_cons_succ]
        refine E_two (i := 7) (j := 9) (by kernel_rfl) rfl rfl (fun K hK => ?_) (fun K hK => ?_)
        · refine step_append_src _ (by rfl) _ _ _ (by rfl) w.heap.size 77 i0 _ 3 24 Try.underlying53 hi hz0 hz1 hz2 rfl (by omega) (.slice none 0 0) 0 [] (by rfl) (World.ownsRow_nil _ _ _ _) (.slice (some ⟨q, o, none⟩) k c) k (rcl (R.L.take k)) (by rfl) (by have := (H3.out.drew.l.take (k := k) (by rw [HNL.out]; omega)).src; rwa [HLE.out] at this) (rcl_one _) (by unfold maxLen; omega) (by omega) (by (try simp); omega) ?_
          intro v1 w2 hown1 hg1 hat1
          have hu1 : Upto NoS (V.drew) w2 := (Upto.of_grown hg1).mono (fun k _ e => by simp [Value.ownBlock] at e)
          simp only [Nat.zero_add, List.nil_append] at hown1
          obtain ⟨a1, c1, rfl, _⟩ := own_slice hown1
          have hbV := hbxV
          refine hK.out _ _ (.inr ⟨hu1.keep hc1 id, hu1.keep y0 id, hu1.keep y1 id, hu1.keep y2 id⟩) (fun hHeld => ?_)
          clear hK K
          try simp only [Act.put, List.getElem_toArray, List.getElem_cons_zero, List.getElem_cons_succ, List.setIfInBounds_toArray, List.set_cons_zero, List.set_cons_succ]
          refine E_one (i := 9) (by kernel_rfl) rfl (fun K hK => ?_)
          go_simp
          refine hK.out _ _ (.inr ⟨keep_alloc (hu1.keep hc1 id) _, keep_alloc (hu1.keep y0 id) _, keep_alloc (hu1.keep y1 id) _, keep_alloc (hu1.keep y2 id) _⟩) (fun hHeld => ?_)
          clear hK K
          try simp only [Act.put, List.getElem_toArray, List.getElem_cons_zero, List.getElem_cons_succ, List.setIfInBounds_toArray, List.set_cons_zero, List.set_cons_succ]
          have hu3 := hu1.alloc (.cells (rcs ⟨d, a⟩).toArray 77)
          have hown3 := hown1.alloc (.cells (rcs ⟨d, a⟩).toArray 77)
          have hnews : ∀ j u, (rcs ⟨d, a⟩)[j]? = some u → (w2.alloc (.cells (rcs ⟨d, a⟩).toArray 77)).cell? ((⟨w2.heap.size, 0, none⟩ : Addr).add j) = some u := World.news_of_block (heap_alloc_new w2 _)
          have hs3 : w.heap.size ≤ (w2.alloc (.cells (rcs ⟨d, a⟩).toArray 77)).heap.size := Nat.le_trans hws hu3.size
          have hc3 := hu3.keep hc1 id
          have hf3 := (hu3.frozen (p := ⟨y, 1, none⟩) hyV id).trans hfz
          refine E_one (i := 10) (by kernel_rfl) rfl (fun K hK => ?_)
          refine step_append_src _ (by rfl) _ _ _ (by rfl) w.heap.size 77 i0 _ 3 24 Try.underlying53 hi hz0 hz1 hz2 rfl (by omega) (.slice a1 k c1) k (rcl (R.L.take k)) (by rfl) hown3 (.slice (some ⟨w2.heap.size, 0, none⟩) 1 1) 1 (rcs ⟨d, a⟩) (by rfl) ⟨rfl, _, _, rfl, .inr ⟨_, rfl, hnews⟩⟩ (rcl_one [⟨d, a⟩]) (by unfold maxLen; omega) (by omega) (by omega) ?_
          intro v2 w4 hown4 hg4 hat4
          have hug4 := Upto.of_grown hg4
          obtain ⟨a2, c2, rfl, _⟩ := own_slice hown4
          have hb3 : ∀ b, (Value.slice a1 k c1).ownBlock = some b → w.heap.size ≤ b := fun b hb => (hown3.lt b hb).1
          have hny3 : ∀ b, b < w.heap.size → ¬ (Value.slice a1 k c1).ownBlock = some b := fun b hb e => by have := hb3 b e; omega
          have hf4 := (hug4.frozen (p := ⟨y, 1, none⟩) (Nat.lt_of_lt_of_le hyV hu3.size) (hny3 y hyw)).trans hf3
          have hc4 := hug4.keep hc3 (hny3 y hyw)
          have hX4 : Upto (fun k => w.heap.size ≤ k) V.drew w4 := (hu3.mono (fun _ _ h => h.elim)).trans' hug4 (fun b _ e => hb3 b e)
          have hnb4 : ¬ (Value.slice a1 k c1).ownBlock = some bx := by
            intro e
            rcases hat1 with h | h
            · rw [h] at e; simp [Value.ownBlock] at e
            · rw [e] at h; have h := Option.some.inj h; simp at h; omega
          have b40 := hug4.keep (hu3.keep y0 id) hnb4
          have b41 := hug4.keep (hu3.keep y1 id) hnb4
          have b42 := hug4.keep (hu3.keep y2 id) hnb4
          have hs4 : w.heap.size ≤ w4.heap.size := Nat.le_trans hs3 hug4.size
          have hsrc4 : Src w4 (.slice (if c = k then some ⟨q, o, none⟩ else some ⟨q, o + k * 3, none⟩) (nl - k) (c - k)) (nl - k) 3 (rcl (R.L.drop k)) := by
            have hl4 := H3.out.drew.l.gen hX4 (fun b hb e => by have := HH.out.pl b e; omega)
            have := (hl4.drop' (k := k) (by rw [HNL.out]; omega)).src
            rwa [HLE2.out] at this
          refine hK.out _ _ (.inr ⟨hc4, b40, b41, b42⟩) (fun hHeld => ?_)
          clear hK K
          try simp only [Act.put, List.getElem_toArray, List.getElem_cons_zero, List.getElem_cons_succ, List.setIfInBounds_toArray, List.set_cons_zero, List.set_cons_succ]
          refine E_one (i := 17) (by kernel_rfl) rfl (fun K hK => ?_)
          refine step_append_src _ (by rfl) _ _ _ (by rfl) w.heap.size 77 i0 _ 3 24 Try.underlying53 hi hz0 hz1 hz2 rfl (by omega) (.slice a2 (k + 1) c2) (k + 1) (rcl (R.L.take k) ++ rcs ⟨d, a⟩) (by rfl) hown4 _ (nl - k) (rcl (R.L.drop k)) (by rfl) hsrc4 (rcl_one _) (by unfold maxLen; omega) (by omega) (by omega) ?_
          intro v3 w5 hown5 hg5 hat5
          have hug5 := Upto.of_grown hg5
          obtain ⟨a3, c3, rfl, _⟩ := own_slice hown5
          have hb4 : ∀ b, (Value.slice a2 (k + 1) c2).ownBlock = some b → w.heap.size ≤ b := fun b hb => (hown4.lt b hb).1
          have hny4 : ∀ b, b < w.heap.size → ¬ (Value.slice a2 (k + 1) c2).ownBlock = some b := fun b hb e => by have := hb4 b e; omega
          have hf5 := (hug5.frozen (p := ⟨y, 1, none⟩) (Nat.lt_of_lt_of_le (Nat.lt_of_lt_of_le hyV hu3.size) hug4.size) (hny4 y hyw)).trans hf4
          have hc5 := hug5.keep hc4 (hny4 y hyw)
          have hnb5 : ¬ (Value.slice a2 (k + 1) c2).ownBlock = some bx := by
            intro e
            rcases hat4 with h | h
            · exact hnb4 (h ▸ e)
            · rw [e] at h; have h := Option.some.inj h; have := hu3.size; simp at h this; omega
          have b50 := hug5.keep b40 hnb5
          have b51 := hug5.keep b41 hnb5
          have b52 := hug5.keep b42 hnb5
          have HEND : RIn (w5.setCell ⟨y, 1, none⟩ (.slice a3 (k + 1 + (nl - k)) c3)) y a3 c3 (R.ins ⟨d, a⟩) ∧ Upto (fun k => k = y) w (w5.setCell ⟨y, 1, none⟩ (.slice a3 (k + 1 + (nl - k)) c3)) ∧ ∀ j, LO a3 j → LO (some ⟨q, o, none⟩) j ∨ w.heap.size ≤ j := by
            have hlen : (R.L.take k ++ [(⟨d, a⟩ : Tm)] ++ R.L.drop k).length = k + 1 + (nl - k) := by rw [List.length_append, List.length_append, HLE.out, HLE2.out]; rfl
            have hX5 : Upto (fun k => w.heap.size ≤ k) V.drew w5 := hX4.trans' hug5 (fun b _ e => hb4 b e)
            have hU5 : Upto (fun k => k = y) w w5 := (HU3.out.drew.mono (fun _ _ h => h.elim)).trans' hX5 (fun b hb e => by omega)
            have e1 : rcl (R.L.take k) ++ rcs ⟨d, a⟩ ++ rcl (R.L.drop k) = rcl (R.L.take k ++ [⟨d, a⟩] ++ R.L.drop k) := by rw [rcl_append, rcl_append]; rfl
            rw [e1, ← hlen] at hown5
            have hl2 := LAt.own hown5
            have hlo : ∀ j, LO a3 j → w.heap.size ≤ j := fun j hj => by
              obtain ⟨o', rfl⟩ := hj
              exact (hown5.lt j rfl).1
            have hR5 := H3.out.drew.gen hX5 (fun b hb e => by
              rcases e with e | e
              · omega
              · have := HH.out.pl b e; omega)
            refine ⟨?_, hU5.setB rfl _, fun j hj => .inr (hlo j hj)⟩
            unfold Rf.ins
            rw [HNK.out.2]
            have := hR5.setL hl2 (fun j hj => by have := hlo j hj; omega) (fun t ht => ?_) (by rw [hlen]; have := HNK.out.1; omega)
            · rwa [hlen] at this
            · rcases List.mem_append.1 ht with h | h
              · rcases List.mem_append.1 h with h | h
                · exact HH.out.ok.each t (List.mem_of_mem_take h)
                · simp at h; subst h; exact ⟨hd, ha⟩
              · exact HH.out.ok.each t (List.mem_of_mem_drop h)
          refine hK.out _ _ (.inr ⟨hc5, b50, b51, b52⟩) (fun hHeld => ?_)
          clear hK K
          try simp only [Act.put, List.getElem_toArray, List.getElem_cons_zero, List.getElem_cons_succ, List.setIfInBounds_toArray, List.set_cons_zero, List.set_cons_succ]
          refine E_one (i := 18) (by kernel_rfl) rfl (fun K hK => ?_)
          go_simp
          refine hK.out _ _ (.inr ⟨hc5, b50, b51, b52⟩) (fun hHeld => ?_)
          clear hK K
          try simp only [Act.put, List.getElem_toArray, List.getElem_cons_zero, List.getElem_cons_succ, List.setIfInBounds_toArray, List.set_cons_zero, List.set_cons_succ]
          refine E_one (i := 19) (by kernel_rfl) rfl (fun K hK => ?_)
          go_simp
          refine hK.out _ _ (.inr ⟨hc5, b50, b51, b52⟩) (fun hHeld => ?_)
          clear hK K
          try simp only [Act.put, List.getElem_toArray, List.getElem_cons_zero, List.getElem_cons_succ, List.setIfInBounds_toArray, List.set_cons_zero, List.set_cons_succ]
          refine E_one (i := 20) (by kernel_rfl) rfl (fun K hK => ?_)
          go_simp
          refine hK.out _ _ (.inl rfl) (fun hHeld => ?_)
          clear hK K
          try simp only [Act.put, List.getElem_toArray, List.getElem_cons_zero, List.getElem_cons_succ, List.setIfInBounds_toArray, List.set_cons_zero, List.set_cons_succ]
          refine E_done (by kernel_rfl) ?_ _
          go_wp2
          all_goals
            go_ret
            exact ⟨rfl, _, _, HEND⟩
        · go_simp
          refine hK.out _ _ (.inr ⟨keep_alloc hc1 _, keep_alloc y0 _, keep_alloc y1 _, keep_alloc y2 _⟩) (fun hHeld => ?_)
          clear hK K
          try simp only [Act.put, List.getElem_toArray, List.getElem_cons_zero, List.getElem_cons_succ, List.setIfInBounds_toArray, List.set_cons_zero, List.set_cons_succ]
          have hu0 : Upto NoS V.drew _ := (Upto.refl NoS V.drew).alloc (.cells (rcs ⟨d, a⟩).toArray 77)
          refine E_one (i := 7) (by kernel_rfl) rfl (fun K hK => ?_)
          refine step_append_src _ (by rfl) _ _ _ (by rfl) w.heap.size 77 i0 _ 3 24 Try.underlying53 hi hz0 hz1 hz2 rfl (by omega) (.slice none 0 0) 0 [] (by rfl) (World.ownsRow_nil _ _ _ _) (.slice (some ⟨q, o, none⟩) k c) k (rcl (R.L.take k)) (by rfl) (by have := ((H3.out.drew.alloc (.cells (rcs ⟨d, a⟩).toArray 77)).l.take (k := k) (by rw [HNL.out]; omega)).src; rwa [HLE.out] at this) (rcl_one _) (by unfold maxLen; omega) (by omega) (by (try simp); omega) ?_
          intro v1 w2 hown1 hg1 hat1
          have hu1 : Upto NoS (V.drew.alloc (.cells (rcs ⟨d, a⟩).toArray 77)) w2 := (Upto.of_grown hg1).mono (fun k _ e => by simp [Value.ownBlock] at e)
          simp only [Nat.zero_add, List.nil_append] at hown1
          obtain ⟨a1, c1, rfl, _⟩ := own_slice hown1
          have hu3 := hu0.trans hu1
          have hown3 := hown1
          have hnews : ∀ j u, (rcs ⟨d, a⟩)[j]? = some u → w2.cell? ((⟨V.heap.size, 0, none⟩ : Addr).add j) = some u := fun j u hj => hu1.keep (World.news_of_block (heap_alloc_new V.drew (.cells (rcs ⟨d, a⟩).toArray 77)) j u hj) id
          refine hK.out _ _ (.inr ⟨hu3.keep hc1 id, hu3.keep y0 id, hu3.keep y1 id, hu3.keep y2 id⟩) (fun hHeld => ?_)
          clear hK K
          try simp only [Act.put, List.getElem_toArray, List.getElem_cons_zero, List.getElem_cons_succ, List.setIfInBounds_toArray, List.set_cons_zero, List.set_cons_succ]
          have hs3 : w.heap.size ≤ (w2).heap.size := Nat.le_trans hws hu3.size
          have hc3 := hu3.keep hc1 id
          have hf3 := (hu3.frozen (p := ⟨y, 1, none⟩) hyV id).trans hfz
          refine E_one (i := 10) (by kernel_rfl) rfl (fun K hK => ?_)
          refine step_append_src _ (by rfl) _ _ _ (by rfl) w.heap.size 77 i0 _ 3 24 Try.underlying53 hi hz0 hz1 hz2 rfl (by omega) (.slice a1 k c1) k (rcl (R.L.take k)) (by rfl) hown3 (.slice (some ⟨V.heap.size, 0, none⟩) 1 1) 1 (rcs ⟨d, a⟩) (by rfl) ⟨rfl, _, _, rfl, .inr ⟨_, rfl, hnews⟩⟩ (rcl_one [⟨d, a⟩]) (by unfold maxLen; omega) (by omega) (by omega) ?_
          intro v2 w4 hown4 hg4 hat4
          have hug4 := Upto.of_grown hg4
          obtain ⟨a2, c2, rfl, _⟩ := own_slice hown4
          have hb3 : ∀ b, (Value.slice a1 k c1).ownBlock = some b → w.heap.size ≤ b := fun b hb => (hown3.lt b hb).1
          have hny3 : ∀ b, b < w.heap.size → ¬ (Value.slice a1 k c1).ownBlock = some b := fun b hb e => by have := hb3 b e; omega
          have hf4 := (hug4.frozen (p := ⟨y, 1, none⟩) (Nat.lt_of_lt_of_le hyV hu3.size) (hny3 y hyw)).trans hf3
          have hc4 := hug4.keep hc3 (hny3 y hyw)
          have hX4 : Upto (fun k => w.heap.size ≤ k) V.drew w4 := (hu3.mono (fun _ _ h => h.elim)).trans' hug4 (fun b _ e => hb3 b e)
          have hnb4 : ¬ (Value.slice a1 k c1).ownBlock = some bx := by
            intro e
            rcases hat1 with h | h
            · rw [h] at e; simp [Value.ownBlock] at e
            · rw [e] at h; have h := Option.some.inj h; simp at h; omega
          have b40 := hug4.keep (hu3.keep y0 id) hnb4
          have b41 := hug4.keep (hu3.keep y1 id) hnb4
          have b42 := hug4.keep (hu3.keep y2 id) hnb4
          have hs4 : w.heap.size ≤ w4.heap.size := Nat.le_trans hs3 hug4.size
          have hsrc4 : Src w4 (.slice (if c = k then some ⟨q, o, none⟩ else some ⟨q, o + k * 3, none⟩) (nl - k) (c - k)) (nl - k) 3 (rcl (R.L.drop k)) := by
            have hl4 := H3.out.drew.l.gen hX4 (fun b hb e => by have := HH.out.pl b e; omega)
            have := (hl4.drop' (k := k) (by rw [HNL.out]; omega)).src
            rwa [HLE2.out] at this
          refine hK.out _ _ (.inr ⟨hc4, b40, b41, b42⟩) (fun hHeld => ?_)
          clear hK K
          try simp only [Act.put, List.getElem_toArray, List.getElem_cons_zero, List.getElem_cons_succ, List.setIfInBounds_toArray, List.set_cons_zero, List.set_cons_succ]
          refine E_one (i := 17) (by kernel_rfl) rfl (fun K hK => ?_)
          refine step_append_src _ (by rfl) _ _ _ (by rfl) w.heap.size 77 i0 _ 3 24 Try.underlying53 hi hz0 hz1 hz2 rfl (by omega) (.slice a2 (k + 1) c2) (k + 1) (rcl (R.L.take k) ++ rcs ⟨d, a⟩) (by rfl) hown4 _ (nl - k) (rcl (R.L.drop k)) (by rfl) hsrc4 (rcl_one _) (by unfold maxLen; omega) (by omega) (by omega) ?_
          intro v3 w5 hown5 hg5 hat5
          have hug5 := Upto.of_grown hg5
          obtain ⟨a3, c3, rfl, _⟩ := own_slice hown5
          have hb4 : ∀ b, (Value.slice a2 (k + 1) c2).ownBlock = some b → w.heap.size ≤ b := fun b hb => (hown4.lt b hb).1
          have hny4 : ∀ b, b < w.heap.size → ¬ (Value.slice a2 (k + 1) c2).ownBlock = some b := fun b hb e => by have := hb4 b e; omega
          have hf5 := (hug5.frozen (p := ⟨y, 1, none⟩) (Nat.lt_of_lt_of_le (Nat.lt_of_lt_of_le hyV hu3.size) hug4.size) (hny4 y hyw)).trans hf4
          have hc5 := hug5.keep hc4 (hny4 y hyw)
          have hnb5 : ¬ (Value.slice a2 (k + 1) c2).ownBlock = some bx := by
            intro e
            rcases hat4 with h | h
            · exact hnb4 (h ▸ e)
            · rw [e] at h; have h := Option.some.inj h; have := hu3.size; simp at h this; omega
          have b50 := hug5.keep b40 hnb5
          have b51 := hug5.keep b41 hnb5
          have b52 := hug5.keep b42 hnb5
          have HEND : RIn (w5.setCell ⟨y, 1, none⟩ (.slice a3 (k + 1 + (nl - k)) c3)) y a3 c3 (R.ins ⟨d, a⟩) ∧ Upto (fun k => k = y) w (w5.setCell ⟨y, 1, none⟩ (.slice a3 (k + 1 + (nl - k)) c3)) ∧ ∀ j, LO a3 j → LO (some ⟨q, o, none⟩) j ∨ w.heap.size ≤ j := by
            have hlen : (R.L.take k ++ [(⟨d, a⟩ : Tm)] ++ R.L.drop k).length = k + 1 + (nl - k) := by rw [List.length_append, List.length_append, HLE.out, HLE2.out]; rfl
            have hX5 : Upto (fun k => w.heap.size ≤ k) V.drew w5 := hX4.trans' hug5 (fun b _ e => hb4 b e)
            have hU5 : Upto (fun k => k = y) w w5 := (HU3.out.drew.mono (fun _ _ h => h.elim)).trans' hX5 (fun b hb e => by omega)
            have e1 : rcl (R.L.take k) ++ rcs ⟨d, a⟩ ++ rcl (R.L.drop k) = rcl (R.L.take k ++ [⟨d, a⟩] ++ R.L.drop k) := by rw [rcl_append, rcl_append]; rfl
            rw [e1, ← hlen] at hown5
            have hl2 := LAt.own hown5
            have hlo : ∀ j, LO a3 j → w.heap.size ≤ j := fun j hj => by
              obtain ⟨o', rfl⟩ := hj
              exact (hown5.lt j rfl).1
            have hR5 := H3.out.drew.gen hX5 (fun b hb e => by
              rcases e with e | e
              · omega
              · have := HH.out.pl b e; omega)
            refine ⟨?_, hU5.setB rfl _, fun j hj => .inr (hlo j hj)⟩
            unfold Rf.ins
            rw [HNK.out.2]
            have := hR5.setL hl2 (fun j hj => by have := hlo j hj; omega) (fun t ht => ?_) (by rw [hlen]; have := HNK.out.1; omega)
            · rwa [hlen] at this
            · rcases List.mem_append.1 ht with h | h
              · rcases List.mem_append.1 h with h | h
                · exact HH.out.ok.each t (List.mem_of_mem_take h)
                · simp at h; subst h; exact ⟨hd, ha⟩
              · exact HH.out.ok.each t (List.mem_of_mem_drop h)
          refine hK.out _ _ (.inr ⟨hc5, b50, b51, b52⟩) (fun hHeld => ?_)
          clear hK K
          try simp only [Act.put, List.getElem_toArray, List.getElem_cons_zero, List.getElem_cons_succ, List.setIfInBounds_toArray, List.set_cons_zero, List.set_cons_succ]
          refine E_one (i := 18) (by kernel_rfl) rfl (fun K hK => ?_)
          go_simp
          refine hK.out _ _ (.inr ⟨hc5, b50, b51, b52⟩) (fun hHeld => ?_)
          clear hK K
          try simp only [Act.put, List.getElem_toArray, List.getElem_cons_zero, List.getElem_cons_succ, List.setIfInBounds_toArray, List.set_cons_zero, List.set_cons_succ]
          refine E_one (i := 19) (by kernel_rfl) rfl (fun K hK => ?_)
          go_simp
          refine hK.out _ _ (.inr ⟨hc5, b50, b51, b52⟩) (fun hHeld => ?_)
          clear hK K
          try simp only [Act.put, List.getElem_toArray, List.getElem_cons_zero, List.getElem_cons_succ, List.setIfInBounds_toArray, List.set_cons_zero, List.set_cons_succ]
          refine E_one (i := 20) (by kernel_rfl) rfl (fun K hK => ?_)
          go_simp
          refine hK.out _ _ (.inl rfl) (fun hHeld => ?_)
          clear hK K
          try simp only [Act.put, List.getElem_toArray, List.getElem_cons_zero, List.getElem_cons_succ, List.setIfInBounds_toArray, List.set_cons_zero, List.set_cons_succ]
          refine E_done (by kernel_rfl) ?_ _
          go_wp2
          all_goals
            go_ret
            exact ⟨rfl, _, _, HEND⟩
      · have HQ := Lib.hid hq
        clear hq
        go_upto_region 6 with (fail)
        go_region_held3 (fun w' => w'.cell? ⟨y, 1, none⟩ = some (.slice (some ⟨q, o, none⟩) R.L.length c) ∧ w'.cell? ⟨q, o + k * 3, none⟩ = some (.int .i64 (ts R.L k)) ∧ w'.cell? ⟨q, o + k * 3 + 1, none⟩ = some (.int .u32 (tg R.L k : Nat)) ∧ w'.cell? ⟨q, o + k * 3 + 2, none⟩ = some (.int .i64 (td R.L k : Nat)) ∧ w'.cell? ⟨bx, 0, none⟩ = some (.int .i64 a.s) ∧ w'.cell? ⟨bx, 1, none⟩ = some (.int .u32 (a.g : Nat)) ∧ w'.cell? ⟨bx, 2, none⟩ = some (.int .i64 (d : Nat)))
          (first | exact ⟨hc1, e0, e1, e2, y0, y1, y2⟩ | exact ⟨hu9.keep hc1 id, hu9.keep e0 id, hu9.keep e1 id, hu9.keep e2 id, hu9.keep y0 id, hu9.keep y1 id, hu9.keep y2 id⟩)
          (first | (go_at_call 32; (with_reducible refine (ahead_r _ ⟨td R.L k, ⟨ts R.L k, tg R.L k⟩⟩ ⟨d, a⟩).mono ?_); rw [HQ.out]; rintro e w9 ⟨rfl, hu9⟩))
        go_wp2_with fail
        go_roundw
        case rel => exact ⟨k + 1, by omega, by go_num, Lib.hid (HW.out.drew.trans hu9), Lib.hid (fun j hj h => by
          by_cases e : j = k
          · subst e; have := HQ.out; rwa [hgt] at this
          · exact HL.out j (by omega) h)⟩
        case measure => simp [intOf]; omega
    · have z0 : (0 : Int) ≤ (k : Int) := by omega
      have z1 : decide ((k : Int) < (R.L.length : Int)) = false := by simp; omega
      have z2 : decide (k < R.L.length) = false := by simp; omega
      clear hw h3
      go_upto_region 6 with (fail)
      go_quiet (fail)
      go_wp2_with fail
      have hUw : Upto NoS W (wr.drewN nq) := HW.out.drewN nq
      have HNK : Hid (k ≤ R.L.length ∧ iI R.L ⟨d, a⟩ = k) := Lib.hid ⟨by omega, take_while_len (by omega) (fun j hj h => HL.out j hj h) (fun h => absurd h hlt)⟩
      clear hc1 y0 y1 y2 HL HW
      generalize wr.drewN nq = V at hUw ⊢
      obtain ⟨nl, hnl⟩ : ∃ nl, R.L.length = nl := ⟨_, rfl⟩
      have HKN : Hid (k = nl) := Lib.hid (by omega)
      rw [hnl] at HNK hm hcl
      have HNL := Lib.hid hnl
      have hbxV : bx < V.heap.size := Nat.lt_of_lt_of_le hbx hUw.size
      clear hnl hlt z0 z1 z2 hk
      cases p with
      | none =>
        have hc0 : c = 0 := by
          rcases HH.out.l.at_ with ⟨_, e⟩ | ⟨_, _, e, _⟩
          · exact e
          · cases e
        have HC0 := Lib.hid hc0
        have HN0 : Hid (nl = 0) := Lib.hid (by omega)
        have HK0 : Hid (k = 0) := Lib.hid (by have := HN0.out; have := HKN.out; omega)
        have H3 := Lib.hid (H2.out.upto hUw)
        have hc1 := H3.out.c1
        have hfz := H3.out.row.frozen 1
        rw [HNL.out] at hc1
        have y0 := hUw.keep x0 id
        have y1 := hUw.keep x1 id
        have y2 := hUw.keep x2 id
        have HU3 := Lib.hid (HU2.out.trans hUw)
        have hws := HU3.out.size
        have hle := HNK.out.1
        have HLE : Hid ((R.L.take k).length = k) := Lib.hid (by rw [List.length_take, HNL.out]; omega)
        have HLE2 : Hid ((R.L.drop k).length = nl - k) := Lib.hid (by rw [List.length_drop, HNL.out])
        have hyw := HH.out.lt
        have hyV := H3.out.lt
        have kc : k ≤ c := by omega
        have kz : (0 : Int) ≤ (k : Int) := by omega
        have kl : (k : Int) ≤ (nl : Int) := by omega
        refine E_start (S := fun w' => w'.cell? ⟨y, 1, none⟩ = some (.slice none nl c) ∧ w'.cell? ⟨bx, 0, none⟩ = some (.int .i64 a.s) ∧ w'.cell? ⟨bx, 1, none⟩ = some (.int .u32 (a.g : Nat)) ∧ w'.cell? ⟨bx, 2, none⟩ = some (.int .i64 (d : Nat))) 20 (by kernel_rfl) ⟨hc1, y0, y1, y2⟩ (fun hHeld => ?_)
        refine E_take (i := 0) (v := ?_) rfl (by kernel_rfl) (by kernel_rfl) (by kernel_rfl) (by kernel_rfl) (fun _ _ _ h => h) (Or.inl ⟨by rfl, ?_⟩) (by assumption) ?_
        rotate_left
        · ((intro w hSw; (try dsimp only at hSw); go_simp); (try with_reducible rfl))
        try simp only [Act.put, List.getElem_toArray, List.getElem_cons_zero, List.getElem_cons_succ, List.setIfInBounds_toArray, List.set_cons_zero, List.set_cons_succ]
        refine E_take (i := 1) (v := ?_) rfl (by kernel_rfl) (by kernel_rfl) (by kernel_rfl) (by kernel_rfl) (fun _ _ _ h => h) (Or.inl ⟨by rfl, ?_⟩) (by assumption) ?_
        rotate_left
        · ((intro w hSw; (try dsimp only at hSw); go_simp); (try with_reducible rfl))
        try simp only [Act.put, List.getElem_toArray, List.getElem_cons_zero, List.getElem_cons_succ, List.setIfInBounds_toArray, List.set_cons_zero, List.set_cons_succ]
        refine E_take (i := 2) (v := ?_) rfl (by kernel_rfl) (by kernel_rfl) (by kernel_rfl) (by kernel_rfl) (fun _ _ _ h => h) (Or.inl ⟨by rfl, ?_⟩) (by assumption) ?_
        rotate_left
        · ((intro w hSw; (try dsimp only at hSw); go_simp); (try with_reducible rfl))
        try simp only [Act.put, List.getElem_toArray, List.getElem_cons_zero, List.getElem_cons_succ, List.setIfInBounds_toArray, List.set_cons_zero, List.set_cons_succ]
        refine E_take (i := 3) (v := ?_) rfl (by kernel_rfl) (by kernel_rfl) (by kernel_rfl) (by kernel_rfl) (fun _ _ _ h => h) (Or.inl ⟨by rfl, ?_⟩) (by assumption) ?_
        rotate_left
        · ((intro w hSw; (try dsimp only at hSw); go_simp); (try with_reducible rfl))
        try simp only [Act.put, List.getElem_toArray, List.getElem_cons_zero, List.getElem_cons_succ, List.setIfInBounds_toArray, List.set_cons_zero, List.set_cons_succ]
        refine E_take (i := 4) (v := ?_) rfl (by kernel_rfl) (by kernel_rfl) (by kernel_rfl) (by kernel_rfl) (fun _ _ _ h => h) (Or.inl ⟨by rfl, ?_⟩) (by assumption) ?_
        rotate_left
        · ((intro w hSw; (try dsimp only at hSw); go_simp); (try with_reducible rfl))
        try simp only [Act.put, List.getElem_toArray, List.getElem_cons_zero, List.getElem_cons_succ, List.setIfInBounds_toArray, List.set_cons_zero, List.set_cons_succ]
        refine E_take (i := 5) (v := ?_) rfl (by kernel_rfl) (by kernel_rfl) (by kernel_rfl) (by kernel_rfl) (fun _ _ _ h => h) (Or.inl ⟨by rfl, ?_⟩) (by assumption) ?_
        rotate_left
        · ((intro w hSw; (try dsimp only at hSw); go_simp); (try with_reducible rfl))
        try simp only [Act.put, List.getElem_toArray, List.getElem_cons_zero, List.getElem_cons_succ, List.setIfInBounds_toArray, List.set_cons_zero, List.set_cons_succ]
        refine E_take (i := 6) (v := .slice none 0 0) rfl (by kernel_rfl) (by kernel_rfl) (by kernel_rfl) (by kernel_rfl) (fun _ _ _ h => h) (Or.inl ⟨by rfl, ?_⟩) (by assumption) ?_
        · (intro w hSw; (try dsimp only at hSw); obtain rfl := HK0.out; obtain rfl := HN0.out; obtain rfl := HC0.out; go_simp; try (with_reducible rfl))
        try simp only [Act.put, List.getElem_toArray, List.getElem_cons_zero, List.getElem_cons_succ, List.setIfInBounds_toArray, List.set_cons_zero, List.set_cons_succ]
        refine E_take (i := 8) (v := ?_) rfl (by kernel_rfl) (by kernel_rfl) (by kernel_rfl) (by kernel_rfl) (fun _ _ _ h => h) (Or.inl ⟨by rfl, ?_⟩) (by assumption) ?_
        rotate_left
        · ((intro w hSw; (try dsimp only at hSw); go_simp); (try with_reducible rfl))
        try simp only [Act.put, List.getElem_toArray, List.getElem_cons_zero, List.getElem_cons_succ, List.setIfInBounds_toArray, List.set_cons_zero, List.set_cons_succ]
        refine E_take (i := 11) (v := ?_) rfl (by kernel_rfl) (by kernel_rfl) (by kernel_rfl) (by kernel_rfl) (fun _ _ _ h => h) (Or.inl ⟨by rfl, ?_⟩) (by assumption) ?_
        rotate_left
        · ((intro w hSw; (try dsimp only at hSw); go_simp); (try with_reducible rfl))
        try simp only [Act.put, List.getElem_toArray, List.getElem_cons_zero, List.getElem_cons_succ, List.setIfInBounds_toArray, List.set_cons_zero, List.set_cons_succ]
        refine E_take (i := 12) (v := ?_) rfl (by kernel_rfl) (by kernel_rfl) (by kernel_rfl) (by kernel_rfl) (fun _ _ _ h => h) (Or.inl ⟨by rfl, ?_⟩) (by assumption) ?_
        rotate_left
        · ((intro w hSw; (try dsimp only at hSw); go_simp); (try with_reducible rfl))
        try simp only [Act.put, List.getElem_toArray, List.getElem_cons_zero, List.getElem_cons_succ, List.setIfInBounds_toArray, List.set_cons_zero, List.set_cons_succ]
        refine E_take (i := 13) (v := ?_) rfl (by kernel_rfl) (by kernel_rfl) (by kernel_rfl) (by kernel_rfl) (fun _ _ _ h => h) (Or.inl ⟨by rfl, ?_⟩) (by assumption) ?_
        rotate_left
        · ((intro w hSw; (try dsimp only at hSw); go_simp); (try with_reducible rfl))
        try simp only [Act.put, List.getElem_toArray, List.getElem_cons_zero, List.getElem_cons_succ, List.setIfInBounds_toArray, List.set_cons_zero, List.set_cons_succ]
        refine E_take (i := 14) (v := ?_) rfl (by kernel_rfl) (by kernel_rfl) (by kernel_rfl) (by kernel_rfl) (fun _ _ _ h => h) (Or.inl ⟨by rfl, ?_⟩) (by assumption) ?_
        rotate_left
        · ((intro w hSw; (try dsimp only at hSw); go_simp); (try with_reducible rfl))
        try simp only [Act.put, List.getElem_toArray, List.getElem_cons_zero, List.getElem_cons_succ, List.setIfInBounds_toArray, List.set_cons_zero, List.set_cons_succ]
        refine E_take (i := 15) (v := ?_) rfl (by kernel_rfl) (by kernel_rfl) (by kernel_rfl) (by kernel_rfl) (fun _ _ _ h => h) (Or.inl ⟨by rfl, ?_⟩) (by assumption) ?_
        rotate_left
        · ((intro w hSw; (try dsimp only at hSw); go_simp); (try with_reducible rfl))
        try simp only [Act.put, List.getElem_toArray, List.getElem_cons_zero, List.getElem_cons_succ, List.setIfInBounds_toArray, List.set_cons_zero, List.set_cons_succ]
        refine E_take (i := 16) (v := .slice none 0 0) rfl (by kernel_rfl) (by kernel_rfl) (by kernel_rfl) (by kernel_rfl) (fun _ _ _ h => h) (Or.inl ⟨by rfl, ?_⟩) (by assumption) ?_
        · (intro w hSw; (try dsimp only at hSw); obtain rfl := HK0.out; obtain rfl := HN0.out; obtain rfl := HC0.out; go_simp; try (with_reducible rfl))
        try simp only [Act.put, List.getElem_toArray, List.getElem_cons_zero, List.getElem_cons_succ, List.setIfInBounds_toArray, List.set_cons_zero, List.set_cons_succ]
        refine E_two (i := 7) (j := 9) (by kernel_rfl) rfl rfl (fun K hK => ?_) (fun K hK => ?_)
        · refine step_append_src _ (by rfl) _ _ _ (by rfl) w.heap.size 77 i0 _ 3 24 Try.underlying53 hi hz0 hz1 hz2 rfl (by omega) (.slice none 0 0) 0 [] (by rfl) (World.ownsRow_nil _ _ _ _) (.slice none 0 0) k (rcl (R.L.take k)) (by rfl) (by rw [HK0.out]; exact ⟨by simp [rcl], none, 0, rfl, .inl ⟨rfl, rfl, rfl⟩⟩) (rcl_one _) (by unfold maxLen; omega) (by omega) (by (try simp); omega) ?_
          intro v1 w2 hown1 hg1 hat1
          have hu1 : Upto NoS (V.drew) w2 := (Upto.of_grown hg1).mono (fun k _ e => by simp [Value.ownBlock] at e)
          simp only [Nat.zero_add, List.nil_append] at hown1
          obtain ⟨a1, c1, rfl, _⟩ := own_slice hown1
          have hbV := hbxV
          refine hK.out _ _ (.inr ⟨hu1.keep hc1 id, hu1.keep y0 id, hu1.keep y1 id, hu1.keep y2 id⟩) (fun hHeld => ?_)
          clear hK K
          try simp only [Act.put, List.getElem_toArray, List.getElem_cons_zero, List.getElem_cons_succ, List.setIfInBounds_toArray, List.set_cons_zero, List.set_cons_succ]
          refine E_one (i := 9) (by kernel_rfl) rfl (fun K hK => ?_)
          go_simp
          refine hK.out _ _ (.inr ⟨keep_alloc (hu1.keep hc1 id) _, keep_alloc (hu1.keep y0 id) _, keep_alloc (hu1.keep y1 id) _, keep_alloc (hu1.keep y2 id) _⟩) (fun hHeld => ?_)
          clear hK K
          try simp only [Act.put, List.getElem_toArray, List.getElem_cons_zero, List.getElem_cons_succ, List.setIfInBounds_toArray, List.set_cons_zero, List.set_cons_succ]
          have hu3 := hu1.alloc (.cells (rcs ⟨d, a⟩).toArray 77)
          have hown3 := hown1.alloc (.cells (rcs ⟨d, a⟩).toArray 77)
          have hnews : ∀ j u, (rcs ⟨d, a⟩)[j]? = some u → (w2.alloc (.cells (rcs ⟨d, a⟩).toArray 77)).cell? ((⟨w2.heap.size, 0, none⟩ : Addr).add j) = some u := World.news_of_block (heap_alloc_new w2 _)
          have hs3 : w.heap.size ≤ (w2.alloc (.cells (rcs ⟨d, a⟩).toArray 77)).heap.size := Nat.le_trans hws hu3.size
          have hc3 := hu3.keep hc1 id
          have hf3 := (hu3.frozen (p := ⟨y, 1, none⟩) hyV id).trans hfz
          refine E_one (i := 10) (by kernel_rfl) rfl (fun K hK => ?_)
          refine step_append_src _ (by rfl) _ _ _ (by rfl) w.heap.size 77 i0 _ 3 24 Try.underlying53 hi hz0 hz1 hz2 rfl (by omega) (.slice a1 k c1) k (rcl (R.L.take k)) (by rfl) hown3 (.slice (some ⟨w2.heap.size, 0, none⟩) 1 1) 1 (rcs ⟨d, a⟩) (by rfl) ⟨rfl, _, _, rfl, .inr ⟨_, rfl, hnews⟩⟩ (rcl_one [⟨d, a⟩]) (by unfold maxLen; omega) (by omega) (by omega) ?_
          intro v2 w4 hown4 hg4 hat4
          have hug4 := Upto.of_grown hg4
          obtain ⟨a2, c2, rfl, _⟩ := own_slice hown4
          have hb3 : ∀ b, (Value.slice a1 k c1).ownBlock = some b → w.heap.size ≤ b := fun b hb => (hown3.lt b hb).1
          have hny3 : ∀ b, b < w.heap.size → ¬ (Value.slice a1 k c1).ownBlock = some b := fun b hb e => by have := hb3 b e; omega
          have hf4 := (hug4.frozen (p := ⟨y, 1, none⟩) (Nat.lt_of_lt_of_le hyV hu3.size) (hny3 y hyw)).trans hf3
          have hc4 := hug4.keep hc3 (hny3 y hyw)
          have hX4 : Upto (fun k => w.heap.size ≤ k) V.drew w4 := (hu3.mono (fun _ _ h => h.elim)).trans' hug4 (fun b _ e => hb3 b e)
          have hnb4 : ¬ (Value.slice a1 k c1).ownBlock = some bx := by
            intro e
            rcases hat1 with h | h
            · rw [h] at e; simp [Value.ownBlock] at e
            · rw [e] at h; have h := Option.some.inj h; simp at h; omega
          have b40 := hug4.keep (hu3.keep y0 id) hnb4
          have b41 := hug4.keep (hu3.keep y1 id) hnb4
          have b42 := hug4.keep (hu3.keep y2 id) hnb4
          have hs4 : w.heap.size ≤ w4.heap.size := Nat.le_trans hs3 hug4.size
          have hsrc4 : Src w4 (.slice none 0 0) (nl - k) 3 (rcl (R.L.drop k)) := by
            have hl4 := H3.out.drew.l.gen hX4 (fun b hb e => by have := HH.out.pl b e; omega)
            have e0 : nl - k = 0 := by have := HN0.out; omega
            have e1 : R.L.drop k = [] := List.eq_nil_of_length_eq_zero (by rw [HLE2.out, e0])
            rw [e0, e1]
            exact ⟨rfl, none, 0, rfl, .inl ⟨rfl, rfl, rfl⟩⟩
          refine hK.out _ _ (.inr ⟨hc4, b40, b41, b42⟩) (fun hHeld => ?_)
          clear hK K
          try simp only [Act.put, List.getElem_toArray, List.getElem_cons_zero, List.getElem_cons_succ, List.setIfInBounds_toArray, List.set_cons_zero, List.set_cons_succ]
          refine E_one (i := 17) (by kernel_rfl) rfl (fun K hK => ?_)
          refine step_append_src _ (by rfl) _ _ _ (by rfl) w.heap.size 77 i0 _ 3 24 Try.underlying53 hi hz0 hz1 hz2 rfl (by omega) (.slice a2 (k + 1) c2) (k + 1) (rcl (R.L.take k) ++ rcs ⟨d, a⟩) (by rfl) hown4 _ (nl - k) (rcl (R.L.drop k)) (by rfl) hsrc4 (rcl_one _) (by unfold maxLen; omega) (by omega) (by omega) ?_
          intro v3 w5 hown5 hg5 hat5
          have hug5 := Upto.of_grown hg5
          obtain ⟨a3, c3, rfl, _⟩ := own_slice hown5
          have hb4 : ∀ b, (Value.slice a2 (k + 1) c2).ownBlock = some b → w.heap.size ≤ b := fun b hb => (hown4.lt b hb).1
          have hny4 : ∀ b, b < w.heap.size → ¬ (Value.slice a2 (k + 1) c2).ownBlock = some b := fun b hb e => by have := hb4 b e; omega
          have hf5 := (hug5.frozen (p := ⟨y, 1, none⟩) (Nat.lt_of_lt_of_le (Nat.lt_of_lt_of_le hyV hu3.size) hug4.size) (hny4 y hyw)).trans hf4
          have hc5 := hug5.keep hc4 (hny4 y hyw)
          have hnb5 : ¬ (Value.slice a2 (k + 1) c2).ownBlock = some bx := by
            intro e
            rcases hat4 with h | h
            · exact hnb4 (h ▸ e)
            · rw [e] at h; have h := Option.some.inj h; have := hu3.size; simp at h this; omega
          have b50 := hug5.keep b40 hnb5
          have b51 := hug5.keep b41 hnb5
          have b52 := hug5.keep b42 hnb5
          have HEND : RIn (w5.setCell ⟨y, 1, none⟩ (.slice a3 (k + 1 + (nl - k)) c3)) y a3 c3 (R.ins ⟨d, a⟩) ∧ Upto (fun k => k = y) w (w5.setCell ⟨y, 1, none⟩ (.slice a3 (k + 1 + (nl - k)) c3)) ∧ ∀ j, LO a3 j → LO none j ∨ w.heap.size ≤ j := by
            have hlen : (R.L.take k ++ [(⟨d, a⟩ : Tm)] ++ R.L.drop k).length = k + 1 + (nl - k) := by rw [List.length_append, List.length_append, HLE.out, HLE2.out]; rfl
            have hX5 : Upto (fun k => w.heap.size ≤ k) V.drew w5 := hX4.trans' hug5 (fun b _ e => hb4 b e)
            have hU5 : Upto (fun k => k = y) w w5 := (HU3.out.drew.mono (fun _ _ h => h.elim)).trans' hX5 (fun b hb e => by omega)
            have e1 : rcl (R.L.take k) ++ rcs ⟨d, a⟩ ++ rcl (R.L.drop k) = rcl (R.L.take k ++ [⟨d, a⟩] ++ R.L.drop k) := by rw [rcl_append, rcl_append]; rfl
            rw [e1, ← hlen] at hown5
            have hl2 := LAt.own hown5
            have hlo : ∀ j, LO a3 j → w.heap.size ≤ j := fun j hj => by
              obtain ⟨o', rfl⟩ := hj
              exact (hown5.lt j rfl).1
            have hR5 := H3.out.drew.gen hX5 (fun b hb e => by
              rcases e with e | e
              · omega
              · have := HH.out.pl b e; omega)
            refine ⟨?_, hU5.setB rfl _, fun j hj => .inr (hlo j hj)⟩
            unfold Rf.ins
            rw [HNK.out.2]
            have := hR5.setL hl2 (fun j hj => by have := hlo j hj; omega) (fun t ht => ?_) (by rw [hlen]; have := HNK.out.1; omega)
            · rwa [hlen] at this
            · rcases List.mem_append.1 ht with h | h
              · rcases List.mem_append.1 h with h | h
                · exact HH.out.ok.each t (List.mem_of_mem_take h)
                · simp at h; subst h; exact ⟨hd, ha⟩
              · exact HH.out.ok.each t (List.mem_of_mem_drop h)
          refine hK.out _ _ (.inr ⟨hc5, b50, b51, b52⟩) (fun hHeld => ?_)
          clear hK K
          try simp only [Act.put, List.getElem_toArray, List.getElem_cons_zero, List.getElem_cons_succ, List.setIfInBounds_toArray, List.set_cons_zero, List.set_cons_succ]
          refine E_one (i := 18) (by kernel_rfl) rfl (fun K hK => ?_)
          go_simp
          refine hK.out _ _ (.inr ⟨hc5, b50, b51, b52⟩) (fun hHeld => ?_)
          clear hK K
          try simp only [Act.put, List.getElem_toArray, List.getElem_cons_zero, List.getElem_cons_succ, List.setIfInBounds_toArray, List.set_cons_zero, List.set_cons_succ]
          refine E_one (i := 19) (by kernel_rfl) rfl (fun K hK => ?_)
          go_simp
          refine hK.out _ _ (.inr ⟨hc5, b50, b51, b52⟩) (fun hHeld => ?_)
          clear hK K
          try simp only [Act.put, List.getElem_toArray, List.getElem_cons_zero, List.getElem_cons_succ, List.setIfInBounds_toArray, List.set_cons_zero, List.set_cons_succ]
          refine E_one (i := 20) (by kernel_rfl) rfl (fun K hK => ?_)
          go_simp
          refine hK.out _ _ (.inl rfl) (fun hHeld => ?_)
          clear hK K
          try simp only [Act.put, List.getElem_toArray, List.getElem_cons_zero, List.getElem_cons_succ, List.setIfInBounds_toArray, List.set_cons_zero, List.set_cons_succ]
          refine E_done (by kernel_rfl) ?_ _
          go_wp2
          all_goals
            go_ret
            exact ⟨rfl, _, _, HEND⟩
        · go_simp
          refine hK.out _ _ (.inr ⟨keep_alloc hc1 _, keep_alloc y0 _, keep_alloc y1 _, keep_alloc y2 _⟩) (fun hHeld => ?_)
          clear hK K
          try simp only [Act.put, List.getElem_toArray, List.getElem_cons_zero, List.getElem_cons_succ, List.setIfInBounds_toArray, List.set_cons_zero, List.set_cons_succ]
          have hu0 : Upto NoS V.drew _ := (Upto.refl NoS V.drew).alloc (.cells (rcs ⟨d, a⟩).toArray 77)
          refine E_one (i := 7) (by kernel_rfl) rfl (fun K hK => ?_)
          refine step_append_src _ (by rfl) _ _ _ (by rfl) w.heap.size 77 i0 _ 3 24 Try.underlying53 hi hz0 hz1 hz2 rfl (by omega) (.slice none 0 0) 0 [] (by rfl) (World.ownsRow_nil _ _ _ _) (.slice none 0 0) k (rcl (R.L.take k)) (by rfl) (by rw [HK0.out]; exact ⟨by simp [rcl], none, 0, rfl, .inl ⟨rfl, rfl, rfl⟩⟩) (rcl_one _) (by unfold maxLen; omega) (by omega) (by (try simp); omega) ?_
          intro v1 w2 hown1 hg1 hat1
          have hu1 : Upto NoS (V.drew.alloc (.cells (rcs ⟨d, a⟩).toArray 77)) w2 := (Upto.of_grown hg1).mono (fun k _ e => by simp [Value.ownBlock] at e)
          simp only [Nat.zero_add, List.nil_append] at hown1
          obtain ⟨a1, c1, rfl, _⟩ := own_slice hown1
          have hu3 := hu0.trans hu1
          have hown3 := hown1
          have hnews : ∀ j u, (rcs ⟨d, a⟩)[j]? = some u → w2.cell? ((⟨V.heap.size, 0, none⟩ : Addr).add j) = some u := fun j u hj => hu1.keep (World.news_of_block (heap_alloc_new V.drew (.cells (rcs ⟨d, a⟩).toArray 77)) j u hj) id
          refine hK.out _ _ (.inr ⟨hu3.keep hc1 id, hu3.keep y0 id, hu3.keep y1 id, hu3.keep y2 id⟩) (fun hHeld => ?_)
          clear hK K
          try simp only [Act.put, List.getElem_toArray, List.getElem_cons_zero, List.getElem_cons_succ, List.setIfInBounds_toArray, List.set_cons_zero, List.set_cons_succ]
          have hs3 : w.heap.size ≤ (w2).heap.size := Nat.le_trans hws hu3.size
          have hc3 := hu3.keep hc1 id
          have hf3 := (hu3.frozen (p := ⟨y, 1, none⟩) hyV id).trans hfz
          refine E_one (i := 10) (by kernel_rfl) rfl (fun K hK => ?_)
          refine step_append_src _ (by rfl) _ _ _ (by rfl) w.heap.size 77 i0 _ 3 24 Try.underlying53 hi hz0 hz1 hz2 rfl (by omega) (.slice a1 k c1) k (rcl (R.L.take k)) (by rfl) hown3 (.slice (some ⟨V.heap.size, 0, none⟩) 1 1) 1 (rcs ⟨d, a⟩) (by rfl) ⟨rfl, _, _, rfl, .inr ⟨_, rfl, hnews⟩⟩ (rcl_one [⟨d, a⟩]) (by unfold maxLen; omega) (by omega) (by omega) ?_
          intro v2 w4 hown4 hg4 hat4
          have hug4 := Upto.of_grown hg4
          obtain ⟨a2, c2, rfl, _⟩ := own_slice hown4
          have hb3 : ∀ b, (Value.slice a1 k c1).ownBlock = some b → w.heap.size ≤ b := fun b hb => (hown3.lt b hb).1
          have hny3 : ∀ b, b < w.heap.size → ¬ (Value.slice a1 k c1).ownBlock = some b := fun b hb e => by have := hb3 b e; omega
          have hf4 := (hug4.frozen (p := ⟨y, 1, none⟩) (Nat.lt_of_lt_of_le hyV hu3.size) (hny3 y hyw)).trans hf3
          have hc4 := hug4.keep hc3 (hny3 y hyw)
          have hX4 : Upto (fun k => w.heap.size ≤ k) V.drew w4 := (hu3.mono (fun _ _ h => h.elim)).trans' hug4 (fun b _ e => hb3 b e)
          have hnb4 : ¬ (Value.slice a1 k c1).ownBlock = some bx := by
            intro e
            rcases hat1 with h | h
            · rw [h] at e; simp [Value.ownBlock] at e
            · rw [e] at h; have h := Option.some.inj h; simp at h; omega
          have b40 := hug4.keep (hu3.keep y0 id) hnb4
          have b41 := hug4.keep (hu3.keep y1 id) hnb4
          have b42 := hug4.keep (hu3.keep y2 id) hnb4
          have hs4 : w.heap.size ≤ w4.heap.size := Nat.le_trans hs3 hug4.size
          have hsrc4 : Src w4 (.slice none 0 0) (nl - k) 3 (rcl (R.L.drop k)) := by
            have hl4 := H3.out.drew.l.gen hX4 (fun b hb e => by have := HH.out.pl b e; omega)
            have e0 : nl - k = 0 := by have := HN0.out; omega
            have e1 : R.L.drop k = [] := List.eq_nil_of_length_eq_zero (by rw [HLE2.out, e0])
            rw [e0, e1]
            exact ⟨rfl, none, 0, rfl, .inl ⟨rfl, rfl, rfl⟩⟩
          refine hK.out _ _ (.inr ⟨hc4, b40, b41, b42⟩) (fun hHeld => ?_)
          clear hK K
          try simp only [Act.put, List.getElem_toArray, List.getElem_cons_zero, List.getElem_cons_succ, List.setIfInBounds_toArray, List.set_cons_zero, List.set_cons_succ]
          refine E_one (i := 17) (by kernel_rfl) rfl (fun K hK => ?_)
          refine step_append_src _ (by rfl) _ _ _ (by rfl) w.heap.size 77 i0 _ 3 24 Try.underlying53 hi hz0 hz1 hz2 rfl (by omega) (.slice a2 (k + 1) c2) (k + 1) (rcl (R.L.take k) ++ rcs ⟨d, a⟩) (by rfl) hown4 _ (nl - k) (rcl (R.L.drop k)) (by rfl) hsrc4 (rcl_one _) (by unfold maxLen; omega) (by omega) (by omega) ?_
          intro v3 w5 hown5 hg5 hat5
          have hug5 := Upto.of_grown hg5
          obtain ⟨a3, c3, rfl, _⟩ := own_slice hown5
          have hb4 : ∀ b, (Value.slice a2 (k + 1) c2).ownBlock = some b → w.heap.size ≤ b := fun b hb => (hown4.lt b hb).1
          have hny4 : ∀ b, b < w.heap.size → ¬ (Value.slice a2 (k + 1) c2).ownBlock = some b := fun b hb e => by have := hb4 b e; omega
          have hf5 := (hug5.frozen (p := ⟨y, 1, none⟩) (Nat.lt_of_lt_of_le (Nat.lt_of_lt_of_le hyV hu3.size) hug4.size) (hny4 y hyw)).trans hf4
          have hc5 := hug5.keep hc4 (hny4 y hyw)
          have hnb5 : ¬ (Value.slice a2 (k + 1) c2).ownBlock = some bx := by
            intro e
            rcases hat4 with h | h
            · exact hnb4 (h ▸ e)
            · rw [e] at h; have h := Option.some.inj h; have := hu3.size; simp at h this; omega
          have b50 := hug5.keep b40 hnb5
          have b51 := hug5.keep b41 hnb5
          have b52 := hug5.keep b42 hnb5
          have HEND : RIn (w5.setCell ⟨y, 1, none⟩ (.slice a3 (k + 1 + (nl - k)) c3)) y a3 c3 (R.ins ⟨d, a⟩) ∧ Upto (fun k => k = y) w (w5.setCell ⟨y, 1, none⟩ (.slice a3 (k + 1 + (nl - k)) c3)) ∧ ∀ j, LO a3 j → LO none j ∨ w.heap.size ≤ j := by
            have hlen : (R.L.take k ++ [(⟨d, a⟩ : Tm)] ++ R.L.drop k).length = k + 1 + (nl - k) := by rw [List.length_append, List.length_append, HLE.out, HLE2.out]; rfl
            have hX5 : Upto (fun k => w.heap.size ≤ k) V.drew w5 := hX4.trans' hug5 (fun b _ e => hb4 b e)
            have hU5 : Upto (fun k => k = y) w w5 := (HU3.out.drew.mono (fun _ _ h => h.elim)).trans' hX5 (fun b hb e => by omega)
            have e1 : rcl (R.L.take k) ++ rcs ⟨d, a⟩ ++ rcl (R.L.drop k) = rcl (R.L.take k ++ [⟨d, a⟩] ++ R.L.drop k) := by rw [rcl_append, rcl_append]; rfl
            rw [e1, ← hlen] at hown5
            have hl2 := LAt.own hown5
            have hlo : ∀ j, LO a3 j → w.heap.size ≤ j := fun j hj => by
              obtain ⟨o', rfl⟩ := hj
              exact (hown5.lt j rfl).1
            have hR5 := H3.out.drew.gen hX5 (fun b hb e => by
              rcases e with e | e
              · omega
              · have := HH.out.pl b e; omega)
            refine ⟨?_, hU5.setB rfl _, fun j hj => .inr (hlo j hj)⟩
            unfold Rf.ins
            rw [HNK.out.2]
            have := hR5.setL hl2 (fun j hj => by have := hlo j hj; omega) (fun t ht => ?_) (by rw [hlen]; have := HNK.out.1; omega)
            · rwa [hlen] at this
            · rcases List.mem_append.1 ht with h | h
              · rcases List.mem_append.1 h with h | h
                · exact HH.out.ok.each t (List.mem_of_mem_take h)
                · simp at h; subst h; exact ⟨hd, ha⟩
              · exact HH.out.ok.each t (List.mem_of_mem_drop h)
          refine hK.out _ _ (.inr ⟨hc5, b50, b51, b52⟩) (fun hHeld => ?_)
          clear hK K
          try simp only [Act.put, List.getElem_toArray, List.getElem_cons_zero, List.getElem_cons_succ, List.setIfInBounds_toArray, List.set_cons_zero, List.set_cons_succ]
          refine E_one (i := 18) (by kernel_rfl) rfl (fun K hK => ?_)
          go_simp
          refine hK.out _ _ (.inr ⟨hc5, b50, b51, b52⟩) (fun hHeld => ?_)
          clear hK K
          try simp only [Act.put, List.getElem_toArray, List.getElem_cons_zero, List.getElem_cons_succ, List.setIfInBounds_toArray, List.set_cons_zero, List.set_cons_succ]
          refine E_one (i := 19) (by kernel_rfl) rfl (fun K hK => ?_)
          go_simp
          refine hK.out _ _ (.inr ⟨hc5, b50, b51, b52⟩) (fun hHeld => ?_)
          clear hK K
          try simp only [Act.put, List.getElem_toArray, List.getElem_cons_zero, List.getElem_cons_succ, List.setIfInBounds_toArray, List.set_cons_zero, List.set_cons_succ]
          refine E_one (i := 20) (by kernel_rfl) rfl (fun K hK => ?_)
          go_simp
          refine hK.out _ _ (.inl rfl) (fun hHeld => ?_)
          clear hK K
          try simp only [Act.put, List.getElem_toArray, List.getElem_cons_zero, List.getElem_cons_succ, List.setIfInBounds_toArray, List.set_cons_zero, List.set_cons_succ]
          refine E_done (by kernel_rfl) ?_ _
          go_wp2
          all_goals
            go_ret
            exact ⟨rfl, _, _, HEND⟩
      | some ad =>
        obtain ⟨q, o, rfl⟩ : ∃ q o, ad = ⟨q, o, none⟩ := by
          rcases HH.out.l.at_ with ⟨e, _⟩ | ⟨q, o, e, _⟩
          · cases e
          · exact ⟨q, o, Option.some.inj e⟩
        have H3 := Lib.hid (H2.out.upto hUw)
        have hc1 := H3.out.c1
        have hfz := H3.out.row.frozen 1
        rw [HNL.out] at hc1
        have y0 := hUw.keep x0 id
        have y1 := hUw.keep x1 id
        have y2 := hUw.keep x2 id
        have HU3 := Lib.hid (HU2.out.trans hUw)
        have hws := HU3.out.size
        have hle := HNK.out.1
        have HLE : Hid ((R.L.take k).length = k) := Lib.hid (by rw [List.length_take, HNL.out]; omega)
        have HLE2 : Hid ((R.L.drop k).length = nl - k) := Lib.hid (by rw [List.length_drop, HNL.out])
        have hyw := HH.out.lt
        have hyV := H3.out.lt
        have kc : k ≤ c := by omega
        have kz : (0 : Int) ≤ (k : Int) := by omega
        have kl : (k : Int) ≤ (nl : Int) := by omega
        refine E_start (S := fun w' => w'.cell? ⟨y, 1, none⟩ = some (.slice (some ⟨q, o, none⟩) nl c) ∧ w'.cell? ⟨bx, 0, none⟩ = some (.int .i64 a.s) ∧ w'.cell? ⟨bx, 1, none⟩ = some (.int .u32 (a.g : Nat)) ∧ w'.cell? ⟨bx, 2, none⟩ = some (.int .i64 (d : Nat))) 20 (by kernel_rfl) ⟨hc1, y0, y1, y2⟩ (fun hHeld => ?_)
        refine E_take (i := 0) (v := ?_) rfl (by kernel_rfl) (by kernel_rfl) (by kernel_rfl) (by kernel_rfl) (fun _ _ _ h => h) (Or.inl ⟨by rfl, ?_⟩) (by assumption) ?_
        rotate_left
        · ((intro w hSw; (try dsimp only at hSw); go_simp); (try with_reducible rfl))
        try simp only [Act.put, List.getElem_toArray, List.getElem_cons_zero, List.getElem_cons_succ, List.setIfInBounds_toArray, List.set_cons_zero, List.set_cons_succ]
        refine E_take (i := 1) (v := ?_) rfl (by kernel_rfl) (by kernel_rfl) (by kernel_rfl) (by kernel_rfl) (fun _ _ _ h => h) (Or.inl ⟨by rfl, ?_⟩) (by assumption) ?_
        rotate_left
        · ((intro w hSw; (try dsimp only at hSw); go_simp); (try with_reducible rfl))
        try simp only [Act.put, List.getElem_toArray, List.getElem_cons_zero, List.getElem_cons_succ, List.setIfInBounds_toArray, List.set_cons_zero, List.set_cons_succ]
        refine E_take (i := 2) (v := ?_) rfl (by kernel_rfl) (by kernel_rfl) (by kernel_rfl) (by kernel_rfl) (fun _ _ _ h => h) (Or.inl ⟨by rfl, ?_⟩) (by assumption) ?_
        rotate_left
        · ((intro w hSw; (try dsimp only at hSw); go_simp); (try with_reducible rfl))
        try simp only [Act.put, List.getElem_toArray, List.getElem_cons_zero, List.getElem_cons_succ, List.setIfInBounds_toArray, List.set_cons_zero, List.set_cons_succ]
        refine E_take (i := 3) (v := ?_) rfl (by kernel_rfl) (by kernel_rfl) (by kernel_rfl) (by kernel_rfl) (fun _ _ _ h => h) (Or.inl ⟨by rfl, ?_⟩) (by assumption) ?_
        rotate_left
        · ((intro w hSw; (try dsimp only at hSw); go_simp); (try with_reducible rfl))
        try simp only [Act.put, List.getElem_toArray, List.getElem_cons_zero, List.getElem_cons_succ, List.setIfInBounds_toArray, List.set_cons_zero, List.set_cons_succ]
        refine E_take (i := 4) (v := ?_) rfl (by kernel_rfl) (by kernel_rfl) (by kernel_rfl) (by kernel_rfl) (fun _ _ _ h => h) (Or.inl ⟨by rfl, ?_⟩) (by assumption) ?_
        rotate_left
        · ((intro w hSw; (try dsimp only at hSw); go_simp); (try with_reducible rfl))
        try simp only [Act.put, List.getElem_toArray, List.getElem_cons_zero, List.getElem_cons_succ, List.setIfInBounds_toArray, List.set_cons_zero, List.set_cons_succ]
        refine E_take (i := 5) (v := ?_) rfl (by kernel_rfl) (by kernel_rfl) (by kernel_rfl) (by kernel_rfl) (fun _ _ _ h => h) (Or.inl ⟨by rfl, ?_⟩) (by assumption) ?_
        rotate_left
        · ((intro w hSw; (try dsimp only at hSw); go_simp); (try with_reducible rfl))
        try simp only [Act.put, List.getElem_toArray, List.getElem_cons_zero, List.getElem_cons_succ, List.setIfInBounds_toArray, List.set_cons_zero, List.set_cons_succ]
        refine E_take (i := 6) (v := .slice (some ⟨q, o, none⟩) k c) rfl (by kernel_rfl) (by kernel_rfl) (by kernel_rfl) (by kernel_rfl) (fun _ _ _ h => h) (Or.inl ⟨by rfl, ?_⟩) (by assumption) ?_
        · (intro w hSw; (try dsimp only at hSw); go_simp; try (with_reducible rfl))
        try simp only [Act.put, List.getElem_toArray, List.getElem_cons_zero, List.getElem_cons_succ, List.setIfInBounds_toArray, List.set_cons_zero, List.set_cons_succ]
        refine E_take (i := 8) (v := ?_) rfl (by kernel_rfl) (by kernel_rfl) (by kernel_rfl) (by kernel_rfl) (fun _ _ _ h => h) (Or.inl ⟨by rfl, ?_⟩) (by assumption) ?_
        rotate_left
        · ((intro w hSw; (try dsimp only at hSw); go_simp); (try with_reducible rfl))
        try simp only [Act.put, List.getElem_toArray, List.getElem_cons_zero, List.getElem_cons_succ, List.setIfInBounds_toArray, List.set_cons_zero, List.set_cons_succ]
        refine E_take (i := 11) (v := ?_) rfl (by kernel_rfl) (by kernel_rfl) (by kernel_rfl) (by kernel_rfl) (fun _ _ _ h => h) (Or.inl ⟨by rfl, ?_⟩) (by assumption) ?_
        rotate_left
        · ((intro w hSw; (try dsimp only at hSw); go_simp); (try with_reducible rfl))
        try simp only [Act.put, List.getElem_toArray, List.getElem_cons_zero, List.getElem_cons_succ, List.setIfInBounds_toArray, List.set_cons_zero, List.set_cons_succ]
        refine E_take (i := 12) (v := ?_) rfl (by kernel_rfl) (by kernel_rfl) (by kernel_rfl) (by kernel_rfl) (fun _ _ _ h => h) (Or.inl ⟨by rfl, ?_⟩) (by assumption) ?_
        rotate_left
        · ((intro w hSw; (try dsimp only at hSw); go_simp); (try with_reducible rfl))
        try simp only [Act.put, List.getElem_toArray, List.getElem_cons_zero, List.getElem_cons_succ, List.setIfInBounds_toArray, List.set_cons_zero, List.set_cons_succ]
        refine E_take (i := 13) (v := ?_) rfl (by kernel_rfl) (by kernel_rfl) (by kernel_rfl) (by kernel_rfl) (fun _ _ _ h => h) (Or.inl ⟨by rfl, ?_⟩) (by assumption) ?_
        rotate_left
        · ((intro w hSw; (try dsimp only at hSw); go_simp); (try with_reducible rfl))
        try simp only [Act.put, List.getElem_toArray, List.getElem_cons_zero, List.getElem_cons_succ, List.setIfInBounds_toArray, List.set_cons_zero, List.set_cons_succ]
        refine E_take (i := 14) (v := ?_) rfl (by kernel_rfl) (by kernel_rfl) (by kernel_rfl) (by kernel_rfl) (fun _ _ _ h => h) (Or.inl ⟨by rfl, ?_⟩) (by assumption) ?_
        rotate_left
        · ((intro w hSw; (try dsimp only at hSw); go_simp); (try with_reducible rfl))
        try simp only [Act.put, List.getElem_toArray, List.getElem_cons_zero, List.getElem_cons_succ, List.setIfInBounds_toArray, List.set_cons_zero, List.set_cons_succ]
        refine E_take (i := 15) (v := ?_) rfl (by kernel_rfl) (by kernel_rfl) (by kernel_rfl) (by kernel_rfl) (fun _ _ _ h => h) (Or.inl ⟨by rfl, ?_⟩) (by assumption) ?_
        rotate_left
        · ((intro w hSw; (try dsimp only at hSw); go_simp); (try with_reducible rfl))
        try simp only [Act.put, List.getElem_toArray, List.getElem_cons_zero, List.getElem_cons_succ, List.setIfInBounds_toArray, List.set_cons_zero, List.set_cons_succ]
        refine E_take (i := 16) (v := .slice (if c = k then some ⟨q, o, none⟩ else some ⟨q, o + k * 3, none⟩) (nl - k) (c - k)) rfl (by kernel_rfl) (by kernel_rfl) (by kernel_rfl) (by kernel_rfl) (fun _ _ _ h => h) (Or.inl ⟨by rfl, ?_⟩) (by assumption) ?_
        · (intro w hSw; (try dsimp only at hSw); go_simp; try (with_reducible rfl))
        try simp only [Act.put, List.getElem_toArray, List.getElem_cons_zero, List.getElem_cons_succ, List.setIfInBounds_toArray, List.set_cons_zero, List.set_cons_succ]
        refine E_two (i := 7) (j := 9) (by kernel_rfl) rfl rfl (fun K hK => ?_) (fun K hK => ?_)
        · refine step_append_src _ (by rfl) _ _ _ (by rfl) w.heap.size 77 i0 _ 3 24 Try.underlying53 hi hz0 hz1 hz2 rfl (by omega) (.slice none 0 0) 0 [] (by rfl) (World.ownsRow_nil _ _ _ _) (.slice (some ⟨q, o, none⟩) k c) k (rcl (R.L.take k)) (by rfl) (by have := (H3.out.drew.l.take (k := k) (by rw [HNL.out]; omega)).src; rwa [HLE.out] at this) (rcl_one _) (by unfold maxLen; omega) (by omega) (by (try simp); omega) ?_
          intro v1 w2 hown1 hg1 hat1
          have hu1 : Upto NoS (V.drew) w2 := (Upto.of_grown hg1).mono (fun k _ e => by simp [Value.ownBlock] at e)
          simp only [Nat.zero_add, List.nil_append] at hown1
          obtain ⟨a1, c1, rfl, _⟩ := own_slice hown1
          have hbV := hbxV
          refine hK.out _ _ (.inr ⟨hu1.keep hc1 id, hu1.keep y0 id, hu1.keep y1 id, hu1.keep y2 id⟩) (fun hHeld => ?_)
          clear hK K
          try simp only [Act.put, List.getElem_toArray, List.getElem_cons_zero, List.getElem_cons_succ, List.setIfInBounds_toArray, List.set_cons_zero, List.set_cons_succ]
          refine E_one (i := 9) (by kernel_rfl) rfl (fun K hK => ?_)
          go_simp
          refine hK.out _ _ (.inr ⟨keep_alloc (hu1.keep hc1 id) _, keep_alloc (hu1.keep y0 id) _, keep_alloc (hu1.keep y1 id) _, keep_alloc (hu1.keep y2 id) _⟩) (fun hHeld => ?_)
          clear hK K
          try simp only [Act.put, List.getElem_toArray, List.getElem_cons_zero, List.getElem_cons_succ, List.setIfInBounds_toArray, List.set_cons_zero, List.set_cons_succ]
          have hu3 := hu1.alloc (.cells (rcs ⟨d, a⟩).toArray 77)
          have hown3 := hown1.alloc (.cells (rcs ⟨d, a⟩).toArray 77)
          have hnews : ∀ j u, (rcs ⟨d, a⟩)[j]? = some u → (w2.alloc (.cells (rcs ⟨d, a⟩).toArray 77)).cell? ((⟨w2.heap.size, 0, none⟩ : Addr).add j) = some u := World.news_of_block (heap_alloc_new w2 _)
          have hs3 : w.heap.size ≤ (w2.alloc (.cells (rcs ⟨d, a⟩).toArray 77)).heap.size := Nat.le_trans hws hu3.size
          have hc3 := hu3.keep hc1 id
          have hf3 := (hu3.frozen (p := ⟨y, 1, none⟩) hyV id).trans hfz
          refine E_one (i := 10) (by kernel_rfl) rfl (fun K hK => ?_)
          refine step_append_src _ (by rfl) _ _ _ (by rfl) w.heap.size 77 i0 _ 3 24 Try.underlying53 hi hz0 hz1 hz2 rfl (by omega) (.slice a1 k c1) k (rcl (R.L.take k)) (by rfl) hown3 (.slice (some ⟨w2.heap.size, 0, none⟩) 1 1) 1 (rcs ⟨d, a⟩) (by rfl) ⟨rfl, _, _, rfl, .inr ⟨_, rfl, hnews⟩⟩ (rcl_one [⟨d, a⟩]) (by unfold maxLen; omega) (by omega) (by omega) ?_
          intro v2 w4 hown4 hg4 hat4
          have hug4 := Upto.of_grown hg4
          obtain ⟨a2, c2, rfl, _⟩ := own_slice hown4
          have hb3 : ∀ b, (Value.slice a1 k c1).ownBlock = some b → w.heap.size ≤ b := fun b hb => (hown3.lt b hb).1
          have hny3 : ∀ b, b < w.heap.size → ¬ (Value.slice a1 k c1).ownBlock = some b := fun b hb e => by have := hb3 b e; omega
          have hf4 := (hug4.frozen (p := ⟨y, 1, none⟩) (Nat.lt_of_lt_of_le hyV hu3.size) (hny3 y hyw)).trans hf3
          have hc4 := hug4.keep hc3 (hny3 y hyw)
          have hX4 : Upto (fun k => w.heap.size ≤ k) V.drew w4 := (hu3.mono (fun _ _ h => h.elim)).trans' hug4 (fun b _ e => hb3 b e)
          have hnb4 : ¬ (Value.slice a1 k c1).ownBlock = some bx := by
            intro e
            rcases hat1 with h | h
            · rw [h] at e; simp [Value.ownBlock] at e
            · rw [e] at h; have h := Option.some.inj h; simp at h; omega
          have b40 := hug4.keep (hu3.keep y0 id) hnb4
          have b41 := hug4.keep (hu3.keep y1 id) hnb4
          have b42 := hug4.keep (hu3.keep y2 id) hnb4
          have hs4 : w.heap.size ≤ w4.heap.size := Nat.le_trans hs3 hug4.size
          have hsrc4 : Src w4 (.slice (if c = k then some ⟨q, o, none⟩ else some ⟨q, o + k * 3, none⟩) (nl - k) (c - k)) (nl - k) 3 (rcl (R.L.drop k)) := by
            have hl4 := H3.out.drew.l.gen hX4 (fun b hb e => by have := HH.out.pl b e; omega)
            have := (hl4.drop' (k := k) (by rw [HNL.out]; omega)).src
            rwa [HLE2.out] at this
          refine hK.out _ _ (.inr ⟨hc4, b40, b41, b42⟩) (fun hHeld => ?_)
          clear hK K
          try simp only [Act.put, List.getElem_toArray, List.getElem_cons_zero, List.getElem_cons_succ, List.setIfInBounds_toArray, List.set_cons_zero, List.set_cons_succ]
          refine E_one (i := 17) (by kernel_rfl) rfl (fun K hK => ?_)
          refine step_append_src _ (by rfl) _ _ _ (by rfl) w.heap.size 77 i0 _ 3 24 Try.underlying53 hi hz0 hz1 hz2 rfl (by omega) (.slice a2 (k + 1) c2) (k + 1) (rcl (R.L.take k) ++ rcs ⟨d, a⟩) (by rfl) hown4 _ (nl - k) (rcl (R.L.drop k)) (by rfl) hsrc4 (rcl_one _) (by unfold maxLen; omega) (by omega) (by omega) ?_
          intro v3 w5 hown5 hg5 hat5
          have hug5 := Upto.of_grown hg5
          obtain ⟨a3, c3, rfl, _⟩ := own_slice hown5
          have hb4 : ∀ b, (Value.slice a2 (k + 1) c2).ownBlock = some b → w.heap.size ≤ b := fun b hb => (hown4.lt b hb).1
          have hny4 : ∀ b, b < w.heap.size → ¬ (Value.slice a2 (k + 1) c2).ownBlock = some b := fun b hb e => by have := hb4 b e; omega
          have hf5 := (hug5.frozen (p := ⟨y, 1, none⟩) (Nat.lt_of_lt_of_le (Nat.lt_of_lt_of_le hyV hu3.size) hug4.size) (hny4 y hyw)).trans hf4
          have hc5 := hug5.keep hc4 (hny4 y hyw)
          have hnb5 : ¬ (Value.slice a2 (k + 1) c2).ownBlock = some bx := by
            intro e
            rcases hat4 with h | h
            · exact hnb4 (h ▸ e)
            · rw [e] at h; have h := Option.some.inj h; have := hu3.size; simp at h this; omega
          have b50 := hug5.keep b40 hnb5
          have b51 := hug5.keep b41 hnb5
          have b52 := hug5.keep b42 hnb5
          have HEND : RIn (w5.setCell ⟨y, 1, none⟩ (.slice a3 (k + 1 + (nl - k)) c3)) y a3 c3 (R.ins ⟨d, a⟩) ∧ Upto (fun k => k = y) w (w5.setCell ⟨y, 1, none⟩ (.slice a3 (k + 1 + (nl - k)) c3)) ∧ ∀ j, LO a3 j → LO (some ⟨q, o, none⟩) j ∨ w.heap.size ≤ j := by
            have hlen : (R.L.take k ++ [(⟨d, a⟩ : Tm)] ++ R.L.drop k).length = k + 1 + (nl - k) := by rw [List.length_append, List.length_append, HLE.out, HLE2.out]; rfl
            have hX5 : Upto (fun k => w.heap.size ≤ k) V.drew w5 := hX4.trans' hug5 (fun b _ e => hb4 b e)
            have hU5 : Upto (fun k => k = y) w w5 := (HU3.out.drew.mono (fun _ _ h => h.elim)).trans' hX5 (fun b hb e => by omega)
            have e1 : rcl (R.L.take k) ++ rcs ⟨d, a⟩ ++ rcl (R.L.drop k) = rcl (R.L.take k ++ [⟨d, a⟩] ++ R.L.drop k) := by rw [rcl_append, rcl_append]; rfl
            rw [e1, ← hlen] at hown5
            have hl2 := LAt.own hown5
            have hlo : ∀ j, LO a3 j → w.heap.size ≤ j := fun j hj => by
              obtain ⟨o', rfl⟩ := hj
              exact (hown5.lt j rfl).1
            have hR5 := H3.out.drew.gen hX5 (fun b hb e => by
              rcases e with e | e
              · omega
              · have := HH.out.pl b e; omega)
            refine ⟨?_, hU5.setB rfl _, fun j hj => .inr (hlo j hj)⟩
            unfold Rf.ins
            rw [HNK.out.2]
            have := hR5.setL hl2 (fun j hj => by have := hlo j hj; omega) (fun t ht => ?_) (by rw [hlen]; have := HNK.out.1; omega)
            · rwa [hlen] at this
            · rcases List.mem_append.1 ht with h | h
              · rcases List.mem_append.1 h with h | h
                · exact HH.out.ok.each t (List.mem_of_mem_take h)
                · simp at h; subst h; exact ⟨hd, ha⟩
              · exact HH.out.ok.each t (List.mem_of_mem_drop h)
          refine hK.out _ _ (.inr ⟨hc5, b50, b51, b52⟩) (fun hHeld => ?_)
          clear hK K
          try simp only [Act.put, List.getElem_toArray, List.getElem_cons_zero, List.getElem_cons_succ, List.setIfInBounds_toArray, List.set_cons_zero, List.set_cons_succ]
          refine E_one (i := 18) (by kernel_rfl) rfl (fun K hK => ?_)
          go_simp
          refine hK.out _ _ (.inr ⟨hc5, b50, b51, b52⟩) (fun hHeld => ?_)
          clear hK K
          try simp only [Act.put, List.getElem_toArray, List.getElem_cons_zero, List.getElem_cons_succ, List.setIfInBounds_toArray, List.set_cons_zero, List.set_cons_succ]
          refine E_one (i := 19) (by kernel_rfl) rfl (fun K hK => ?_)
          go_simp
          refine hK.out _ _ (.inr ⟨hc5, b50, b51, b52⟩) (fun hHeld => ?_)
          clear hK K
          try simp only [Act.put, List.getElem_toArray, List.getElem_cons_zero, List.getElem_cons_succ, List.setIfInBounds_toArray, List.set_cons_zero, List.set_cons_succ]
          refine E_one (i := 20) (by kernel_rfl) rfl (fun K hK => ?_)
          go_simp
          refine hK.out _ _ (.inl rfl) (fun hHeld => ?_)
          clear hK K
          try simp only [Act.put, List.getElem_toArray, List.getElem_cons_zero, List.getElem_cons_succ, List.setIfInBounds_toArray, List.set_cons_zero, List.set_cons_succ]
          refine E_done (by kernel_rfl) ?_ _
          go_wp2
          all_goals
            go_ret
            exact ⟨rfl, _, _, HEND⟩
        · go_simp
          refine hK.out _ _ (.inr ⟨keep_alloc hc1 _, keep_alloc y0 _, keep_alloc y1 _, keep_alloc y2 _⟩) (fun hHeld => ?_)
          clear hK K
          try simp only [Act.put, List.getElem_toArray, List.getElem_cons_zero, List.getElem_cons_succ, List.setIfInBounds_toArray, List.set_cons_zero, List.set_cons_succ]
          have hu0 : Upto NoS V.drew _ := (Upto.refl NoS V.drew).alloc (.cells (rcs ⟨d, a⟩).toArray 77)
          refine E_one (i := 7) (by kernel_rfl) rfl (fun K hK => ?_)
          refine step_append_src _ (by rfl) _ _ _ (by rfl) w.heap.size 77 i0 _ 3 24 Try.underlying53 hi hz0 hz1 hz2 rfl (by omega) (.slice none 0 0) 0 [] (by rfl) (World.ownsRow_nil _ _ _ _) (.slice (some ⟨q, o, none⟩) k c) k (rcl (R.L.take k)) (by rfl) (by have := ((H3.out.drew.alloc (.cells (rcs ⟨d, a⟩).toArray 77)).l.take (k := k) (by rw [HNL.out]; omega)).src; rwa [HLE.out] at this) (rcl_one _) (by unfold maxLen; omega) (by omega) (by (try simp); omega) ?_
          intro v1 w2 hown1 hg1 hat1
          have hu1 : Upto NoS (V.drew.alloc (.cells (rcs ⟨d, a⟩).toArray 77)) w2 := (Upto.of_grown hg1).mono (fun k _ e => by simp [Value.ownBlock] at e)
          simp only [Nat.zero_add, List.nil_append] at hown1
          obtain ⟨a1, c1, rfl, _⟩ := own_slice hown1
          have hu3 := hu0.trans hu1
          have hown3 := hown1
          have hnews : ∀ j u, (rcs ⟨d, a⟩)[j]? = some u → w2.cell? ((⟨V.heap.size, 0, none⟩ : Addr).add j) = some u := fun j u hj => hu1.keep (World.news_of_block (heap_alloc_new V.drew (.cells (rcs ⟨d, a⟩).toArray 77)) j u hj) id
          refine hK.out _ _ (.inr ⟨hu3.keep hc1 id, hu3.keep y0 id, hu3.keep y1 id, hu3.keep y2 id⟩) (fun hHeld => ?_)
          clear hK K
          try simp only [Act.put, List.getElem_toArray, List.getElem_cons_zero, List.getElem_cons_succ, List.setIfInBounds_toArray, List.set_cons_zero, List.set_cons_succ]
          have hs3 : w.heap.size ≤ (w2).heap.size := Nat.le_trans hws hu3.size
          have hc3 := hu3.keep hc1 id
          have hf3 := (hu3.frozen (p := ⟨y, 1, none⟩) hyV id).trans hfz
          refine E_one (i := 10) (by kernel_rfl) rfl (fun K hK => ?_)
          refine step_append_src _ (by rfl) _ _ _ (by rfl) w.heap.size 77 i0 _ 3 24 Try.underlying53 hi hz0 hz1 hz2 rfl (by omega) (.slice a1 k c1) k (rcl (R.L.take k)) (by rfl) hown3 (.slice (some ⟨V.heap.size, 0, none⟩) 1 1) 1 (rcs ⟨d, a⟩) (by rfl) ⟨rfl, _, _, rfl, .inr ⟨_, rfl, hnews⟩⟩ (rcl_one [⟨d, a⟩]) (by unfold maxLen; omega) (by omega) (by omega) ?_
          intro v2 w4 hown4 hg4 hat4
          have hug4 := Upto.of_grown hg4
          obtain ⟨a2, c2, rfl, _⟩ := own_slice hown4
          have hb3 : ∀ b, (Value.slice a1 k c1).ownBlock = some b → w.heap.size ≤ b := fun b hb => (hown3.lt b hb).1
          have hny3 : ∀ b, b < w.heap.size → ¬ (Value.slice a1 k c1).ownBlock = some b := fun b hb e => by have := hb3 b e; omega
          have hf4 := (hug4.frozen (p := ⟨y, 1, none⟩) (Nat.lt_of_lt_of_le hyV hu3.size) (hny3 y hyw)).trans hf3
          have hc4 := hug4.keep hc3 (hny3 y hyw)
          have hX4 : Upto (fun k => w.heap.size ≤ k) V.drew w4 := (hu3.mono (fun _ _ h => h.elim)).trans' hug4 (fun b _ e => hb3 b e)
          have hnb4 : ¬ (Value.slice a1 k c1).ownBlock = some bx := by
            intro e
            rcases hat1 with h | h
            · rw [h] at e; simp [Value.ownBlock] at e
            · rw [e] at h; have h := Option.some.inj h; simp at h; omega
          have b40 := hug4.keep (hu3.keep y0 id) hnb4
          have b41 := hug4.keep (hu3.keep y1 id) hnb4
          have b42 := hug4.keep (hu3.keep y2 id) hnb4
          have hs4 : w.heap.size ≤ w4.heap.size := Nat.le_trans hs3 hug4.size
          have hsrc4 : Src w4 (.slice (if c = k then some ⟨q, o, none⟩ else some ⟨q, o + k * 3, none⟩) (nl - k) (c - k)) (nl - k) 3 (rcl (R.L.drop k)) := by
            have hl4 := H3.out.drew.l.gen hX4 (fun b hb e => by have := HH.out.pl b e; omega)
            have := (hl4.drop' (k := k) (by rw [HNL.out]; omega)).src
            rwa [HLE2.out] at this
          refine hK.out _ _ (.inr ⟨hc4, b40, b41, b42⟩) (fun hHeld => ?_)
          clear hK K
          try simp only [Act.put, List.getElem_toArray, List.getElem_cons_zero, List.getElem_cons_succ, List.setIfInBounds_toArray, List.set_cons_zero, List.set_cons_succ]
          refine E_one (i := 17) (by kernel_rfl) rfl (fun K hK => ?_)
          refine step_append_src _ (by rfl) _ _ _ (by rfl) w.heap.size 77 i0 _ 3 24 Try.underlying53 hi hz0 hz1 hz2 rfl (by omega) (.slice a2 (k + 1) c2) (k + 1) (rcl (R.L.take k) ++ rcs ⟨d, a⟩) (by rfl) hown4 _ (nl - k) (rcl (R.L.drop k)) (by rfl) hsrc4 (rcl_one _) (by unfold maxLen; omega) (by omega) (by omega) ?_
          intro v3 w5 hown5 hg5 hat5
          have hug5 := Upto.of_grown hg5
          obtain ⟨a3, c3, rfl, _⟩ := own_slice hown5
          have hb4 : ∀ b, (Value.slice a2 (k + 1) c2).ownBlock = some b → w.heap.size ≤ b := fun b hb => (hown4.lt b hb).1
          have hny4 : ∀ b, b < w.heap.size → ¬ (Value.slice a2 (k + 1) c2).ownBlock = some b := fun b hb e => by have := hb4 b e; omega
          have hf5 := (hug5.frozen (p := ⟨y, 1, none⟩) (Nat.lt_of_lt_of_le (Nat.lt_of_lt_of_le hyV hu3.size) hug4.size) (hny4 y hyw)).trans hf4
          have hc5 := hug5.keep hc4 (hny4 y hyw)
          have hnb5 : ¬ (Value.slice a2 (k + 1) c2).ownBlock = some bx := by
            intro e
            rcases hat4 with h | h
            · exact hnb4 (h ▸ e)
            · rw [e] at h; have h := Option.some.inj h; have := hu3.size; simp at h this; omega
          have b50 := hug5.keep b40 hnb5
          have b51 := hug5.keep b41 hnb5
          have b52 := hug5.keep b42 hnb5
          have HEND : RIn (w5.setCell ⟨y, 1, none⟩ (.slice a3 (k + 1 + (nl - k)) c3)) y a3 c3 (R.ins ⟨d, a⟩) ∧ Upto (fun k => k = y) w (w5.setCell ⟨y, 1, none⟩ (.slice a3 (k + 1 + (nl - k)) c3)) ∧ ∀ j, LO a3 j → LO (some ⟨q, o, none⟩) j ∨ w.heap.size ≤ j := by
            have hlen : (R.L.take k ++ [(⟨d, a⟩ : Tm)] ++ R.L.drop k).length = k + 1 + (nl - k) := by rw [List.length_append, List.length_append, HLE.out, HLE2.out]; rfl
            have hX5 : Upto (fun k => w.heap.size ≤ k) V.drew w5 := hX4.trans' hug5 (fun b _ e => hb4 b e)
            have hU5 : Upto (fun k => k = y) w w5 := (HU3.out.drew.mono (fun _ _ h => h.elim)).trans' hX5 (fun b hb e => by omega)
            have e1 : rcl (R.L.take k) ++ rcs ⟨d, a⟩ ++ rcl (R.L.drop k) = rcl (R.L.take k ++ [⟨d, a⟩] ++ R.L.drop k) := by rw [rcl_append, rcl_append]; rfl
            rw [e1, ← hlen] at hown5
            have hl2 := LAt.own hown5
            have hlo : ∀ j, LO a3 j → w.heap.size ≤ j := fun j hj => by
              obtain ⟨o', rfl⟩ := hj
              exact (hown5.lt j rfl).1
            have hR5 := H3.out.drew.gen hX5 (fun b hb e => by
              rcases e with e | e
              · omega
              · have := HH.out.pl b e; omega)
            refine ⟨?_, hU5.setB rfl _, fun j hj => .inr (hlo j hj)⟩
            unfold Rf.ins
            rw [HNK.out.2]
            have := hR5.setL hl2 (fun j hj => by have := hlo j hj; omega) (fun t ht => ?_) (by rw [hlen]; have := HNK.out.1; omega)
            · rwa [hlen] at this
            · rcases List.mem_append.1 ht with h | h
              · rcases List.mem_append.1 h with h | h
                · exact HH.out.ok.each t (List.mem_of_mem_take h)
                · simp at h; subst h; exact ⟨hd, ha⟩
              · exact HH.out.ok.each t (List.mem_of_mem_drop h)
          refine hK.out _ _ (.inr ⟨hc5, b50, b51, b52⟩) (fun hHeld => ?_)
          clear hK K
          try simp only [Act.put, List.getElem_toArray, List.getElem_cons_zero, List.getElem_cons_succ, List.setIfInBounds_toArray, List.set_cons_zero, List.set_cons_succ]
          refine E_one (i := 18) (by kernel_rfl) rfl (fun K hK => ?_)
          go_simp
          refine hK.out _ _ (.inr ⟨hc5, b50, b51, b52⟩) (fun hHeld => ?_)
          clear hK K
          try simp only [Act.put, List.getElem_toArray, List.getElem_cons_zero, List.getElem_cons_succ, List.setIfInBounds_toArray, List.set_cons_zero, List.set_cons_succ]
          refine E_one (i := 19) (by kernel_rfl) rfl (fun K hK => ?_)
          go_simp
          refine hK.out _ _ (.inr ⟨hc5, b50, b51, b52⟩) (fun hHeld => ?_)
          clear hK K
          try simp only [Act.put, List.getElem_toArray, List.getElem_cons_zero, List.getElem_cons_succ, List.setIfInBounds_toArray, List.set_cons_zero, List.set_cons_succ]
          refine E_one (i := 20) (by kernel_rfl) rfl (fun K hK => ?_)
          go_simp
          refine hK.out _ _ (.inl rfl) (fun hHeld => ?_)
          clear hK K
          try simp only [Act.put, List.getElem_toArray, List.getElem_cons_zero, List.getElem_cons_succ, List.setIfInBounds_toArray, List.set_cons_zero, List.set_cons_succ]
          refine E_done (by kernel_rfl) ?_ _
          go_wp2
          all_goals
            go_ret
            exact ⟨rfl, _, _, HEND⟩
end Go.Proofs.Ytgoaokgoenihlaa
