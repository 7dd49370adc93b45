/- The document's put, walked. -/
import Derived.Test.YtfiblchdfacdiaaRfB
import Derived.Test.YtfiblchdfacdiaaWalkG
namespace Go.Proofs.Ytfiblchdfacdiaa
open Go Go.RowKit Go.Deep Go.Maps

/-- One more row, at its place. -/
def insR (L : List Rw) (r : Rw) : List Rw := L.take (L.findIdx (rlt r)) ++ r :: L.drop (L.findIdx (rlt r))
/-- What has come when k have been looked at. -/
def midR (L : List Rw) (r : Rw) (k : Nat) : Bool → List Rw
  | true => L.take (L.findIdx (rlt r)) ++ r :: (L.take k).drop (L.findIdx (rlt r))
  | false => L.take k
theorem take_snoc (L : List Rw) {k : Nat} (hk : k < L.length) : L.take (k + 1) = L.take k ++ [rwAt L k] := by
  rw [List.take_succ_eq_append_getElem hk, rwAt_get L hk]
theorem mid_go (L : List Rw) (r : Rw) {k : Nat} (hk : k < L.length) : midR L r k false ++ [rwAt L k] = midR L r (k + 1) false := (take_snoc L hk).symm
theorem mid_in (L : List Rw) (r : Rw) {k : Nat} (hk : k < L.length) (hf : L.findIdx (rlt r) = k) : (midR L r k false ++ [r]) ++ [rwAt L k] = midR L r (k + 1) true := by
  unfold midR
  rw [hf, take_snoc L hk, List.drop_append_of_le_length (by rw [List.length_take]; omega), List.drop_eq_nil_of_le (by rw [List.length_take]; omega)]
  simp
theorem mid_on (L : List Rw) (r : Rw) {k : Nat} (hk : k < L.length) (hf : L.findIdx (rlt r) < k) : midR L r k true ++ [rwAt L k] = midR L r (k + 1) true := by
  unfold midR
  rw [take_snoc L hk, List.drop_append_of_le_length (by rw [List.length_take]; omega)]
  simp
theorem mid_end (L : List Rw) (r : Rw) : midR L r L.length true = insR L r := by
  unfold midR insR
  rw [List.take_length]
theorem mid_end' (L : List Rw) (r : Rw) (hf : L.length ≤ L.findIdx (rlt r)) : midR L r L.length false ++ [r] = insR L r := by
  unfold midR insR
  rw [List.take_of_length_le hf, List.drop_eq_nil_of_le hf, List.take_length]
theorem mid_len (L : List Rw) (r : Rw) (k : Nat) (b : Bool) : (midR L r k b).length ≤ L.length + k + 1 := by
  cases b <;> simp [midR] <;> omega
theorem insR_len (L : List Rw) (r : Rw) : (insR L r).length = L.length + 1 := by
  unfold insR
  have := List.findIdx_le_length (xs := L) (p := rlt r)
  simp
  omega
theorem insR_mem {L : List Rw} {r s : Rw} (h : s ∈ insR L r) : s ∈ L ∨ s = r := by
  unfold insR at h
  rcases List.mem_append.1 h with h | h
  · exact .inl (List.mem_of_mem_take h)
  · rcases List.mem_cons.1 h with h | h
    · exact .inr h
    · exact .inl (List.mem_of_mem_drop h)
theorem new_r83 (w : World) (r : Rw) : (w.alloc (.cells #[.int .u8 (r.p : Nat), .int .u32 (r.oa : Nat), .int .u16 (r.ob : Nat), .int .u32 (r.ia : Nat), .int .u16 (r.ib : Nat), .int .i64 (r.live : Nat), .int .i64 (r.held : Nat)] 83)).rowIs w.heap.size 83 7 (rwF r) :=
  World.rowIs_alloc w #[.int .u8 (r.p : Nat), .int .u32 (r.oa : Nat), .int .u16 (r.ob : Nat), .int .u32 (r.ia : Nat), .int .u16 (r.ib : Nat), .int .i64 (r.live : Nat), .int .i64 (r.held : Nat)] 83 _ (fun i hi => by
    have : i < 7 := hi
    match i, this with
    | 0, _ => rfl | 1, _ => rfl | 2, _ => rfl | 3, _ => rfl | 4, _ => rfl | 5, _ => rfl | 6, _ => rfl)
theorem rw83_cells {w : World} {k : Nat} {r : Rw} (hR : w.rowIs k 83 7 (rwF r)) :
    w.cell? ⟨k, 0, none⟩ = some (.int .u8 (r.p : Nat)) ∧ w.cell? ⟨k, 1, none⟩ = some (.int .u32 (r.oa : Nat)) ∧ w.cell? ⟨k, 2, none⟩ = some (.int .u16 (r.ob : Nat)) ∧ w.cell? ⟨k, 3, none⟩ = some (.int .u32 (r.ia : Nat)) ∧
      w.cell? ⟨k, 4, none⟩ = some (.int .u16 (r.ib : Nat)) ∧ w.cell? ⟨k, 5, none⟩ = some (.int .i64 (r.live : Nat)) ∧ w.cell? ⟨k, 6, none⟩ = some (.int .i64 (r.held : Nat)) :=
  ⟨hR.cell (i := 0) (by omega), hR.cell (i := 1) (by omega), hR.cell (i := 2) (by omega), hR.cell (i := 3) (by omega), hR.cell (i := 4) (by omega), hR.cell (i := 5) (by omega), hR.cell (i := 6) (by omega)⟩
/-- What put's rounds keep: the document's ports, the row that comes, those that have been laid. -/
structure PutI (w wr : World) (base y B0 : Nat) (ad : Option Addr) (c : Nat) (L : List Rw) (r : Rw) (M : List Rw) (a : Option Addr) (m cc : Nat) : Prop where
  u : Upto NoS w wr
  h : RIn wr base y ad c L
  r : wr.rowIs B0 83 7 (rwF r)
  o : wr.ownsRow (B0 + 1) 83 7 (.slice a m cc) m (wcl M)
  m : m = M.length
  b : w.heap.size ≤ B0
  yb : y < B0
  rb : ∀ k, RfS y ad k → k < B0
theorem PutI.quiet {w wr w' : World} {base y B0 : Nat} {ad : Option Addr} {c : Nat} {L : List Rw} {r : Rw} {M : List Rw} {a : Option Addr} {m cc : Nat} (h : PutI w wr base y B0 ad c L r M a m cc) (hu : Upto NoS wr w') : PutI w w' base y B0 ad c L r M a m cc :=
  ⟨h.u.trans hu, h.h.upto hu, hu.row h.r id, hu.own h.o (fun _ _ h => h), h.m, h.b, h.yb, h.rb⟩
theorem PutI.app {w wr w' w5 : World} {base y B0 : Nat} {ad : Option Addr} {c : Nat} {L : List Rw} {r s : Rw} {M : List Rw} {a : Option Addr} {m cc : Nat} (h : PutI w wr base y B0 ad c L r M a m cc) (hu : Upto NoS wr w') {gg cap : Nat}
    (ho : w5.ownsRow (B0 + 1) 83 7 (.slice (some ⟨gg, 0, none⟩) (m + 1) cap) (m + 1) (wcl M ++ wcs s)) (hg : w'.grownBy w5 (Value.slice a m cc).ownBlock) : PutI w w5 base y B0 ad c L r (M ++ [s]) (some ⟨gg, 0, none⟩) (m + 1) cap := by
  have h1 := h.quiet hu
  have hug := Upto.of_grown hg
  have hlo : ∀ k, (Value.slice a m cc).ownBlock = some k → B0 + 1 ≤ k := fun k hk => (h.o.lt k hk).1
  have hb := h.b
  refine ⟨h1.u.trans' hug (fun k hk e => by have := hlo k e; omega), h1.h.gen hug (fun k hk e => by have := hlo k hk; have := h.rb k e; omega), hug.row h1.r (fun e => by have := hlo _ e; omega), ?_, by rw [h.m]; simp, h.b, h.yb, h.rb⟩
  rw [wcl_append, show wcl [s] = wcs s from by simp [wcl]]
  exact ho

/-- The rows laid anew. -/
def Laid (base y : Nat) (ad : Option Addr) (L' : List Rw) (w w' : World) : Prop := ∃ a' c', RIn w' base y a' c' L' ∧ Upto (RfS y ad) w w' ∧ ∀ k, RfS y a' k → RfS y ad k ∨ w.heap.size ≤ k
theorem put_end {w wr : World} {base y : Nat} {ad : Option Addr} {c : Nat} {L : List Rw} {r : Rw} {M : List Rw} {a : Option Addr} {m cc : Nat} (h : PutI w wr base y w.heap.size ad c L r M a m cc) (hb : base ≤ w.heap.size) (hr : r.Ok) (hM : M = insR L r) (hm : m ≤ 1000000) :
    Laid base y ad (insR L r) w (wr.setCell ⟨y, 0, none⟩ (.slice a m cc)) := by
  subst hM
  have hlo : ∀ k, (Value.slice a m cc).ownBlock = some k → w.heap.size + 1 ≤ k := fun k hk => (h.o.lt k hk).1
  have hyb := h.yb
  have hown3 := ((Upto.refl (fun i => i = y) wr).setB (b := y) (o := 0) rfl (.slice a m cc)).own h.o (fun b hb e => by have := hlo b hb; have e : b = y := e; omega)
  have hmm := h.m
  refine ⟨a, cc, ⟨?_, ?_, fun s hs => ?_, by rw [← hmm]; exact hm, ?_, h.h.lo⟩, (h.u.mono (fun _ _ e => e.elim)).setB (.inl rfl) _, fun k hk => ?_⟩
  · rw [← hmm]; exact (h.h.row.set 0 _).congr (fun i hi => by rw [if_pos (by omega)])
  · rw [← hmm]; exact own_base hown3 (by omega)
  · exact (insR_mem hs).elim (h.h.ok s) (fun e => by rw [e]; exact hr)
  · rw [← hmm]; exact fun e => by have := hlo y e; omega
  · rcases hk with e | e
    · exact .inl (.inl e)
    · exact .inr (by have := hlo k ((ownBlock_any a _ _ _ _).trans e); omega)

set_option maxRecDepth 100000 in
set_option maxHeartbeats 4000000 in
theorem put_r (w : World) (base y : Nat) (ad : Option Addr) (c : Nat) (L : List Rw) (r : Rw) (h : RIn w base y ad c L) (hr : r.Ok) (hm : L.length < 1000) :
    Calls Try.prog 48 #[.pointer (some ⟨y, 0, none⟩), rwV r] w fun e w' => e = .returned (.tuple #[]) ∧ Laid base y ad (insR L r) w w' := by
  have hU : Upto NoS w (w.alloc (.cells #[.int .u8 (r.p : Nat), .int .u32 (r.oa : Nat), .int .u16 (r.ob : Nat), .int .u32 (r.ia : Nat), .int .u16 (r.ib : Nat), .int .i64 (r.live : Nat), .int .i64 (r.held : Nat)] 83)) := (Upto.refl _ w).alloc _
  have hn := new_r83 w r
  have h1 := h.upto hU
  have hyl := h.lt
  have hbase : base ≤ w.heap.size := Nat.le_trans h.lo (Nat.le_of_lt hyl)
  obtain ⟨i0, hi, hz0, hz1, hz2⟩ := info_parts Try.info83
  have HI0 : Hid (PutI w (w.alloc (.cells #[.int .u8 (r.p : Nat), .int .u32 (r.oa : Nat), .int .u16 (r.ob : Nat), .int .u32 (r.ia : Nat), .int .u16 (r.ib : Nat), .int .i64 (r.live : Nat), .int .i64 (r.held : Nat)] 83)) base y w.heap.size ad c L r [] none 0 0) := Lib.hid ⟨hU, h1, hn, ⟨by simp [wcl], .inl ⟨rfl, rfl⟩⟩, rfl, Nat.le_refl _, hyl, fun k hk => (h.slt k hk).2⟩
  have HH := Lib.hid h
  obtain ⟨nL, hnL⟩ : ∃ n, L.length = n := ⟨_, rfl⟩
  have HNL := Lib.hid hnL
  rw [hnL] at hm
  clear h h1 hn hU hnL
  go_enter Try.func48, Try.ntmps48
  go_wp2_with fail
  go_loopw [4, 5, 6] (fun v4 v5 v6 wr => ∃ (k m cc : Nat) (a : Option Addr) (dn : Bool), k ≤ nL ∧ v4 = .slice a m cc ∧ v5 = .bool dn ∧ v6 = .int .i64 k ∧ m ≤ nL + 2 * k ∧ Hid (if dn = true then L.findIdx (rlt r) < k else k ≤ L.findIdx (rlt r)) ∧ Hid (PutI w wr base y w.heap.size ad c L r (midR L r k dn) a m cc)) (fun _ _ v _ => nL - (intOf v).toNat)
  case atStart => exact ⟨0, 0, 0, none, false, by omega, rfl, rfl, rfl, by omega, Lib.hid (by simp), HI0⟩
  case round =>
    clear HI0
    obtain ⟨k, m, cc, a, dn, hk, rfl, rfl, rfl, hmk, HF, HP⟩ := hrel
    have hc := HP.out.h.c0
    rw [HNL.out] at hc
    by_cases hlt : k < nL
    · have hkL : k < L.length := by rw [HNL.out]; exact hlt
      have z0 : (0 : Int) ≤ (k : Int) := by omega
      have z1 : (k : Int) < (nL : Int) := by omega
      obtain ⟨q, rfl, d0, d1, d2, d3, d4, d5, d6⟩ := HP.out.h.at_ hkL
      obtain ⟨e0, e1, e2, e3, e4, e5, e6⟩ := rw83_cells HP.out.r
      have hws := HP.out.u.size
      obtain ⟨s, hs⟩ : ∃ s, rwAt L k = s := ⟨_, rfl⟩
      rw [hs] at d0 d1 d2 d3 d4 d5 d6
      have HS := Lib.hid hs
      clear hs
      cases dn with
      | true =>
        go_upto_region 6 with (fail)
        go_quiet (fail)
        have HP' := Lib.hid (HP.out.quiet ((Upto.refl NoS wr).drewN nq))
        have hF : L.findIdx (rlt r) < k := HF.out
        have HFF := Lib.hid hF
        clear hF HF HP
        go_wp2_with (at_builtin; refine wpList_append_lies _ rfl (.tmp 33) (.tmp 41) 58 rfl (w.heap.size + 1) 83 i0 _ 7 40 Try.underlying58 hi hz0 hz1 hz2 rfl (by omega) (.slice a m cc) m (wcl (midR L r k true)) (by rfl) ((HP'.out.o).alloc (.cells #[.int .u8 (s.p : Nat), .int .u32 (s.oa : Nat), .int .u16 (s.ob : Nat), .int .u32 (s.ia : Nat), .int .u16 (s.ib : Nat), .int .i64 (s.live : Nat), .int .i64 (s.held : Nat)] 83)) ⟨(wr.drewN nq).heap.size, 0, none⟩ 1 1 (wcs s) (by rfl) (by rfl) (World.news_of_block (cs := #[.int .u8 (s.p : Nat), .int .u32 (s.oa : Nat), .int .u16 (s.ob : Nat), .int .u32 (s.ia : Nat), .int .u16 (s.ib : Nat), .int .i64 (s.live : Nat), .int .i64 (s.held : Nat)]) (t := 83) (fr := (0, 0)) (heap_alloc_new (wr.drewN nq) _)) (wcs_one s) (by omega) (by unfold maxLen; omega) (by omega) (by simp; omega) ((wr.drewN nq).heap.size + 1) (by simp) ?_; intro gg cap1 w5 hown1 hgrow hat hlt5)
        have HN : Hid (PutI w w5 base y w.heap.size (some ⟨q, 0, none⟩) c L r (midR L r (k + 1) true) (some ⟨gg, 0, none⟩) (m + 1) cap1) := Lib.hid (by
          have := HP'.out.app ((Upto.refl NoS (wr.drewN nq)).alloc (.cells #[.int .u8 (s.p : Nat), .int .u32 (s.oa : Nat), .int .u16 (s.ob : Nat), .int .u32 (s.ia : Nat), .int .u16 (s.ib : Nat), .int .i64 (s.live : Nat), .int .i64 (s.held : Nat)] 83)) (s := s) hown1 hgrow
          rwa [← HS.out, mid_on L r hkL HFF.out] at this)
        go_roundw
        case rel => exact ⟨k + 1, m + 1, cap1, some ⟨gg, 0, none⟩, true, by omega, by simp, rfl, by go_num, by omega, Lib.hid (by have := HFF.out; simp; omega), HN⟩
        case measure => simp [intOf]; omega
      | false =>
        have hle : k ≤ L.findIdx (rlt r) := by have := HF.out; simpa using this
        cases hlx : rlt r s
        · have HFN := Lib.hid (fX_no hkL hle (by rw [HS.out]; exact hlx))
          have HLS : Hid (∀ W, Calls Try.prog 63 #[rwV r, rwV s] W (Told (.bool false) W)) := Lib.hid (fun W => by have := less_r W r s; rwa [hlx] at this)
          clear hlx hle HF
          go_upto_region 6 with (fail)
          go_region_held3 (fun w' => w'.cell? ⟨w.heap.size, 0, none⟩ = some (.int .u8 (r.p : Nat)) ∧ w'.cell? ⟨w.heap.size, 1, none⟩ = some (.int .u32 (r.oa : Nat)) ∧ w'.cell? ⟨w.heap.size, 2, none⟩ = some (.int .u16 (r.ob : Nat)) ∧ w'.cell? ⟨w.heap.size, 3, none⟩ = some (.int .u32 (r.ia : Nat)) ∧ w'.cell? ⟨w.heap.size, 4, none⟩ = some (.int .u16 (r.ib : Nat)) ∧ w'.cell? ⟨w.heap.size, 5, none⟩ = some (.int .i64 (r.live : Nat)) ∧ w'.cell? ⟨w.heap.size, 6, none⟩ = some (.int .i64 (r.held : Nat)) ∧ w'.cell? ⟨y, 0, none⟩ = some (.slice (some ⟨q, 0, none⟩) nL c) ∧ w'.cell? ⟨q, k * 7, none⟩ = some (.int .u8 (s.p : Nat)) ∧ w'.cell? ⟨q, k * 7 + 1, none⟩ = some (.int .u32 (s.oa : Nat)) ∧ w'.cell? ⟨q, k * 7 + 2, none⟩ = some (.int .u16 (s.ob : Nat)) ∧ w'.cell? ⟨q, k * 7 + 3, none⟩ = some (.int .u32 (s.ia : Nat)) ∧ w'.cell? ⟨q, k * 7 + 4, none⟩ = some (.int .u16 (s.ib : Nat)) ∧ w'.cell? ⟨q, k * 7 + 5, none⟩ = some (.int .i64 (s.live : Nat)) ∧ w'.cell? ⟨q, k * 7 + 6, none⟩ = some (.int .i64 (s.held : Nat)))
            (first | exact ⟨e0, e1, e2, e3, e4, e5, e6, hc, d0, d1, d2, d3, d4, d5, d6⟩ | exact ⟨hu3.keep e0 id, hu3.keep e1 id, hu3.keep e2 id, hu3.keep e3 id, hu3.keep e4 id, hu3.keep e5 id, hu3.keep e6 id, hu3.keep hc id, hu3.keep d0 id, hu3.keep d1 id, hu3.keep d2 id, hu3.keep d3 id, hu3.keep d4 id, hu3.keep d5 id, hu3.keep d6 id⟩)
            (first | (go_at_call 63; refine (HLS.out _).mono ?_; rintro e w3 ⟨rfl, hu3⟩; have HP' := Lib.hid ((HP.out.quiet ((Upto.refl NoS wr).drew)).quiet hu3)))
          clear HP d0 d1 d2 d3 d4 d5 d6 e0 e1 e2 e3 e4 e5 e6 hc
          have hws : w.heap.size ≤ w3.heap.size := HP'.out.u.size
          obtain ⟨q', e9, d0, d1, d2, d3, d4, d5, d6⟩ := HP'.out.h.at_ hkL
          rw [HS.out] at d0 d1 d2 d3 d4 d5 d6
          cases e9
          have hc := HP'.out.h.c0
          rw [HNL.out] at hc
          obtain ⟨e0, e1, e2, e3, e4, e5, e6⟩ := rw83_cells HP'.out.r
          go_wp2_with (at_builtin; refine wpList_append_lies _ rfl (.tmp 33) (.tmp 41) 58 rfl (w.heap.size + 1) 83 i0 _ 7 40 Try.underlying58 hi hz0 hz1 hz2 rfl (by omega) (.slice a m cc) m (wcl (midR L r k false)) (by rfl) ((HP'.out.o).alloc (.cells #[.int .u8 (s.p : Nat), .int .u32 (s.oa : Nat), .int .u16 (s.ob : Nat), .int .u32 (s.ia : Nat), .int .u16 (s.ib : Nat), .int .i64 (s.live : Nat), .int .i64 (s.held : Nat)] 83)) ⟨w3.heap.size, 0, none⟩ 1 1 (wcs s) (by rfl) (by rfl) (World.news_of_block (cs := #[.int .u8 (s.p : Nat), .int .u32 (s.oa : Nat), .int .u16 (s.ob : Nat), .int .u32 (s.ia : Nat), .int .u16 (s.ib : Nat), .int .i64 (s.live : Nat), .int .i64 (s.held : Nat)]) (t := 83) (fr := (0, 0)) (heap_alloc_new w3 _)) (wcs_one s) (by omega) (by unfold maxLen; omega) (by omega) (by simp; omega) (w3.heap.size + 1) (by simp) ?_; intro gg cap1 w5 hown1 hgrow hat hlt5)
          have HN : Hid (PutI w w5 base y w.heap.size (some ⟨q, 0, none⟩) c L r (midR L r (k + 1) false) (some ⟨gg, 0, none⟩) (m + 1) cap1) := Lib.hid (by
            have := HP'.out.app ((Upto.refl NoS w3).alloc (.cells #[.int .u8 (s.p : Nat), .int .u32 (s.oa : Nat), .int .u16 (s.ob : Nat), .int .u32 (s.ia : Nat), .int .u16 (s.ib : Nat), .int .i64 (s.live : Nat), .int .i64 (s.held : Nat)] 83)) (s := s) hown1 hgrow
            rwa [← HS.out, mid_go L r hkL] at this)
          go_roundw
          case rel => exact ⟨k + 1, m + 1, cap1, some ⟨gg, 0, none⟩, false, by omega, by simp, rfl, by go_num, by omega, Lib.hid (by simpa using HFN.out), HN⟩
          case measure => simp [intOf]; omega
        · have HFY := Lib.hid (fX_yes hkL hle (by rw [HS.out]; exact hlx))
          have HLS : Hid (∀ W, Calls Try.prog 63 #[rwV r, rwV s] W (Told (.bool true) W)) := Lib.hid (fun W => by have := less_r W r s; rwa [hlx] at this)
          clear hlx hle HF
          go_upto_region 6 with (fail)
          go_region_held3 (fun w' => w'.cell? ⟨w.heap.size, 0, none⟩ = some (.int .u8 (r.p : Nat)) ∧ w'.cell? ⟨w.heap.size, 1, none⟩ = some (.int .u32 (r.oa : Nat)) ∧ w'.cell? ⟨w.heap.size, 2, none⟩ = some (.int .u16 (r.ob : Nat)) ∧ w'.cell? ⟨w.heap.size, 3, none⟩ = some (.int .u32 (r.ia : Nat)) ∧ w'.cell? ⟨w.heap.size, 4, none⟩ = some (.int .u16 (r.ib : Nat)) ∧ w'.cell? ⟨w.heap.size, 5, none⟩ = some (.int .i64 (r.live : Nat)) ∧ w'.cell? ⟨w.heap.size, 6, none⟩ = some (.int .i64 (r.held : Nat)) ∧ w'.cell? ⟨y, 0, none⟩ = some (.slice (some ⟨q, 0, none⟩) nL c) ∧ w'.cell? ⟨q, k * 7, none⟩ = some (.int .u8 (s.p : Nat)) ∧ w'.cell? ⟨q, k * 7 + 1, none⟩ = some (.int .u32 (s.oa : Nat)) ∧ w'.cell? ⟨q, k * 7 + 2, none⟩ = some (.int .u16 (s.ob : Nat)) ∧ w'.cell? ⟨q, k * 7 + 3, none⟩ = some (.int .u32 (s.ia : Nat)) ∧ w'.cell? ⟨q, k * 7 + 4, none⟩ = some (.int .u16 (s.ib : Nat)) ∧ w'.cell? ⟨q, k * 7 + 5, none⟩ = some (.int .i64 (s.live : Nat)) ∧ w'.cell? ⟨q, k * 7 + 6, none⟩ = some (.int .i64 (s.held : Nat)))
            (first | exact ⟨e0, e1, e2, e3, e4, e5, e6, hc, d0, d1, d2, d3, d4, d5, d6⟩ | exact ⟨hu3.keep e0 id, hu3.keep e1 id, hu3.keep e2 id, hu3.keep e3 id, hu3.keep e4 id, hu3.keep e5 id, hu3.keep e6 id, hu3.keep hc id, hu3.keep d0 id, hu3.keep d1 id, hu3.keep d2 id, hu3.keep d3 id, hu3.keep d4 id, hu3.keep d5 id, hu3.keep d6 id⟩)
            (first | (go_at_call 63; refine (HLS.out _).mono ?_; rintro e w3 ⟨rfl, hu3⟩; have HP' := Lib.hid ((HP.out.quiet ((Upto.refl NoS wr).drew)).quiet hu3)))
          clear HP d0 d1 d2 d3 d4 d5 d6 e0 e1 e2 e3 e4 e5 e6 hc
          have hws : w.heap.size ≤ w3.heap.size := HP'.out.u.size
          obtain ⟨q', e9, d0, d1, d2, d3, d4, d5, d6⟩ := HP'.out.h.at_ hkL
          rw [HS.out] at d0 d1 d2 d3 d4 d5 d6
          cases e9
          have hc := HP'.out.h.c0
          rw [HNL.out] at hc
          obtain ⟨e0, e1, e2, e3, e4, e5, e6⟩ := rw83_cells HP'.out.r
          go_upto_region 8 with (at_builtin; refine wpList_append_lies _ rfl (.tmp 29) (.tmp 31) 58 rfl (w.heap.size + 1) 83 i0 _ 7 40 Try.underlying58 hi hz0 hz1 hz2 rfl (by omega) (.slice a m cc) m (wcl (midR L r k false)) (by rfl) ((HP'.out.o).alloc (.cells #[.int .u8 (r.p : Nat), .int .u32 (r.oa : Nat), .int .u16 (r.ob : Nat), .int .u32 (r.ia : Nat), .int .u16 (r.ib : Nat), .int .i64 (r.live : Nat), .int .i64 (r.held : Nat)] 83)) ⟨w3.heap.size, 0, none⟩ 1 1 (wcs r) (by rfl) (by rfl) (World.news_of_block (cs := #[.int .u8 (r.p : Nat), .int .u32 (r.oa : Nat), .int .u16 (r.ob : Nat), .int .u32 (r.ia : Nat), .int .u16 (r.ib : Nat), .int .i64 (r.live : Nat), .int .i64 (r.held : Nat)]) (t := 83) (fr := (0, 0)) (heap_alloc_new w3 _)) (wcs_one r) (by omega) (by unfold maxLen; omega) (by omega) (by simp; omega) (w3.heap.size + 1) (by simp) ?_; intro gg cap1 w5 hown1 hgrow hat hlt5)
          have HQ := Lib.hid (HP'.out.app ((Upto.refl NoS w3).alloc (.cells #[.int .u8 (r.p : Nat), .int .u32 (r.oa : Nat), .int .u16 (r.ob : Nat), .int .u32 (r.ia : Nat), .int .u16 (r.ib : Nat), .int .i64 (r.live : Nat), .int .i64 (r.held : Nat)] 83)) (s := r) hown1 hgrow)
          clear HP' hown1 hgrow hat hlt5 hws d0 d1 d2 d3 d4 d5 d6 e0 e1 e2 e3 e4 e5 e6 hc
          have hws : w.heap.size ≤ w5.heap.size := HQ.out.u.size
          obtain ⟨q', e9, d0, d1, d2, d3, d4, d5, d6⟩ := HQ.out.h.at_ hkL
          rw [HS.out] at d0 d1 d2 d3 d4 d5 d6
          cases e9
          have hc := HQ.out.h.c0
          rw [HNL.out] at hc
          obtain ⟨e0, e1, e2, e3, e4, e5, e6⟩ := rw83_cells HQ.out.r
          go_wp2_with (at_builtin; refine wpList_append_lies _ rfl (.tmp 33) (.tmp 41) 58 rfl (w.heap.size + 1) 83 i0 _ 7 40 Try.underlying58 hi hz0 hz1 hz2 rfl (by omega) (.slice (some ⟨gg, 0, none⟩) (m + 1) cap1) (m + 1) (wcl (midR L r k false ++ [r])) (by rfl) ((HQ.out.o).alloc (.cells #[.int .u8 (s.p : Nat), .int .u32 (s.oa : Nat), .int .u16 (s.ob : Nat), .int .u32 (s.ia : Nat), .int .u16 (s.ib : Nat), .int .i64 (s.live : Nat), .int .i64 (s.held : Nat)] 83)) ⟨w5.heap.size, 0, none⟩ 1 1 (wcs s) (by rfl) (by rfl) (World.news_of_block (cs := #[.int .u8 (s.p : Nat), .int .u32 (s.oa : Nat), .int .u16 (s.ob : Nat), .int .u32 (s.ia : Nat), .int .u16 (s.ib : Nat), .int .i64 (s.live : Nat), .int .i64 (s.held : Nat)]) (t := 83) (fr := (0, 0)) (heap_alloc_new w5 _)) (wcs_one s) (by omega) (by unfold maxLen; omega) (by omega) (by simp; omega) (w5.heap.size + 1) (by simp) ?_; intro g2 cap2 w7 hown2 hgrow2 hat2 hlt7)
          have HN : Hid (PutI w w7 base y w.heap.size (some ⟨q, 0, none⟩) c L r (midR L r (k + 1) true) (some ⟨g2, 0, none⟩) (m + 1 + 1) cap2) := Lib.hid (by
            have := HQ.out.app ((Upto.refl NoS w5).alloc (.cells #[.int .u8 (s.p : Nat), .int .u32 (s.oa : Nat), .int .u16 (s.ob : Nat), .int .u32 (s.ia : Nat), .int .u16 (s.ib : Nat), .int .i64 (s.live : Nat), .int .i64 (s.held : Nat)] 83)) (s := s) hown2 hgrow2
            rwa [← HS.out, mid_in L r hkL HFY.out] at this)
          go_roundw
          case rel => exact ⟨k + 1, m + 1 + 1, cap2, some ⟨g2, 0, none⟩, true, by omega, by simp, rfl, by go_num, by omega, Lib.hid (by have := HFY.out; simp; omega), HN⟩
          case measure => simp [intOf]; omega
    · obtain rfl : k = nL := by omega
      have hfz := HP.out.h.row.frozen 0
      have hws := HP.out.u.size
      obtain ⟨e0, e1, e2, e3, e4, e5, e6⟩ := rw83_cells HP.out.r
      cases dn with
      | true =>
        have HEND := Lib.hid (put_end HP.out hbase hr (by have := HP.out.m; have := mid_end L r; rw [HNL.out] at this; rw [← this]) (by omega))
        clear HP
        go_wp2_with fail
        go_end0
        exact ⟨rfl, HEND.out⟩
      | false =>
        have hle : k ≤ L.findIdx (rlt r) := by have := HF.out; simpa using this
        have HLE := Lib.hid hle
        clear hle HF
        go_upto_region 11 with (at_builtin; refine wpList_append_lies _ rfl (.tmp 45) (.tmp 47) 58 rfl (w.heap.size + 1) 83 i0 _ 7 40 Try.underlying58 hi hz0 hz1 hz2 rfl (by omega) (.slice a m cc) m (wcl (midR L r k false)) (by rfl) ((HP.out.o).alloc (.cells #[.int .u8 (r.p : Nat), .int .u32 (r.oa : Nat), .int .u16 (r.ob : Nat), .int .u32 (r.ia : Nat), .int .u16 (r.ib : Nat), .int .i64 (r.live : Nat), .int .i64 (r.held : Nat)] 83)) ⟨wr.heap.size, 0, none⟩ 1 1 (wcs r) (by rfl) (by rfl) (World.news_of_block (cs := #[.int .u8 (r.p : Nat), .int .u32 (r.oa : Nat), .int .u16 (r.ob : Nat), .int .u32 (r.ia : Nat), .int .u16 (r.ib : Nat), .int .i64 (r.live : Nat), .int .i64 (r.held : Nat)]) (t := 83) (fr := (0, 0)) (heap_alloc_new wr _)) (wcs_one r) (by omega) (by unfold maxLen; omega) (by omega) (by simp; omega) (wr.heap.size + 1) (by simp) ?_; intro gg cap1 w5 hown1 hgrow hat hlt5)
        have HQ := Lib.hid (HP.out.app ((Upto.refl NoS wr).alloc (.cells #[.int .u8 (r.p : Nat), .int .u32 (r.oa : Nat), .int .u16 (r.ob : Nat), .int .u32 (r.ia : Nat), .int .u16 (r.ib : Nat), .int .i64 (r.live : Nat), .int .i64 (r.held : Nat)] 83)) (s := r) hown1 hgrow)
        have HEND := Lib.hid (put_end HQ.out hbase hr (by have := mid_end' L r (by rw [HNL.out]; exact HLE.out); rw [HNL.out] at this; rw [this]) (by omega))
        clear hc hfz e0 e1 e2 e3 e4 e5 e6
        have hc := HQ.out.h.c0
        rw [HNL.out] at hc
        have hfz := HQ.out.h.row.frozen 0
        clear HP HQ hown1 hgrow hat hlt5
        go_wp2_with fail
        go_end0
        exact ⟨rfl, HEND.out⟩
end Go.Proofs.Ytfiblchdfacdiaa
