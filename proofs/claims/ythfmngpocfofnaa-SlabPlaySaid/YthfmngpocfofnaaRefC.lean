/- The reference's Give and Retire, walked. -/
import Derived.Test.YthfmngpocfofnaaRefB
namespace Go.Proofs.Ythfmngpocfofnaa
open Go Go.RowKit Go.Deep Md

theorem Live_ref_to (w : World) (r g cap : Nat) (st : St) (slot gen : Int) (q : Bool) (h : RefAt w r g cap st) (h1 : -9223372036854775808 ≤ slot) (h2 : slot ≤ 9223372036854775807) (g1 : 0 ≤ gen) (g2 : gen < 4294967296) (hq : liveB st slot gen = q) :
    Calls Try.prog 23 #[.pointer (some ⟨r, 0, none⟩), hv slot gen] w (BoolAt q w) := hq ▸ Live_ref w r g cap st slot gen h h1 h2 g1 g2
theorem RefAt.setBoth {w : World} {r g cap : Nat} {st : St} (h : RefAt w r g cap st) {i : Nat} (hi : i < st.length) {s t : Nat} (hs : s ≤ 2) (ht : t < 4294967296) : RefAt ((w.setCell ⟨g, i * 2, none⟩ (.int .i64 (s : Nat))).setCell ⟨g, i * 2 + 1, none⟩ (.int .u32 (t : Nat))) r g cap (st.set i (s, t)) := by
  have h1 := h.setState hi hs
  have hi1 : i < (turn st i s).length := by rw [turn_length]; exact hi
  have ho := (h1.own.stored (i * 2 + 1) (.int .u32 (t : Nat))).1
  rw [hcl_set1, show ((turn st i s).getD i (0, 0)).1 = s by simp [turn, hi], show (turn st i s).set i (s, t) = st.set i (s, t) by simp [turn]] at ho
  have hu : Upto (· = g) _ ((w.setCell ⟨g, i * 2, none⟩ (.int .i64 (s : Nat))).setCell ⟨g, i * 2 + 1, none⟩ (.int .u32 (t : Nat))) := (Upto.refl (fun x => x = g) _).setB rfl _
  have hl : (turn st i s).length = st.length := turn_length st i s
  have hl2 : (st.set i (s, t)).length = st.length := by simp
  have hk := hu.keep h1.head h.ne
  rw [hl] at hk ho
  exact ⟨by rw [hl2]; exact hk, by rw [hl2]; exact ho, h.ne, h.ok.set hi hs ht, by rw [hl2]; exact h.pos⟩

theorem Give_ref (w : World) (r g cap : Nat) (st : St) (slot gen : Int) (h : RefAt w r g cap st) (h1 : -9223372036854775808 ≤ slot) (h2 : slot ≤ 9223372036854775807) (g1 : 0 ≤ gen) (g2 : gen < 4294967296) :
    Calls Try.prog 17 #[.pointer (some ⟨r, 0, none⟩), hv slot gen] w (RefTurned r g cap (leaveSt st slot gen 0) w (.int .i64 (leaveE st slot gen))) := by
  have hB := h.alloc (.cells #[.int .i64 slot, .int .u32 gen] 31)
  have hU : Upto (· = g) w (w.alloc (.cells #[.int .i64 slot, .int .u32 gen] 31)) := (Upto.refl _ w).alloc _
  have x0 := new_1 w #[.int .i64 slot, .int .u32 gen] 31 0 (.int .i64 slot) rfl
  have x1 := new_1 w #[.int .i64 slot, .int .u32 gen] 31 1 (.int .u32 gen) rfl
  clear h
  cases hl : liveB st slot gen
  · simp only [leaveSt, leaveE, hl]
    go_enter Try.func17, Try.ntmps17
    go_wp2_with (go_at_call 23; refine (Live_ref_to _ r g cap st slot gen _ hB h1 h2 g1 g2 hl).mono ?_; rintro e w1 ⟨rfl, hu1⟩)
    go_ret
    exact ⟨rfl, hB.upto hu1 id id, hU.trans (hu1.mono (fun _ _ h => h.elim))⟩
  · have hL := hl
    simp only [liveB, Bool.and_eq_true, decide_eq_true_eq, beq_iff_eq] at hL
    obtain ⟨⟨⟨k0, k1⟩, k2⟩, k3⟩ := hL
    obtain ⟨n, rfl⟩ := Int.eq_ofNat_of_zero_le k0
    simp only [Int.toNat_natCast] at k2 k3
    have hn : n < st.length := by omega
    have hS : leaveSt st n gen 0 = st.set n (0, (genOf st n + 1) % 4294967296) := by simp [leaveSt, hl, Md.leave]
    have hE : leaveE st n gen = 0 := by simp [leaveE, hl]
    rw [hS, hE]
    have hl' := Lib.hid hl
    have hgen : (gen + 1) % 4294967296 = (((genOf st n + 1) % 4294967296 : Nat) : Int) := by omega
    have HG := Lib.hid hgen
    have hlen := hB.len
    clear hl hS hE k0 k1 k2 k3 hgen
    go_enter Try.func17, Try.ntmps17
    go_wp2_with (go_at_call 23; refine (Live_ref_to _ r g cap st n gen _ hB h1 h2 g1 g2 hl'.out).mono ?_; rintro e w1 ⟨rfl, hu1⟩; have hB1 := hB.upto hu1 id id; have y0 := hu1.keep x0 id; have y1 := hu1.keep x1 id; have hh := hB1.head; have f0 := hB1.frozen (n * 2); have f1 := hB1.frozen (n * 2 + 1); have z0 := (hB1.cells hn).1; have z1 := (hB1.cells hn).2)
    go_still_tail 11, (by kernel_rfl)
    go_wp2
    rw [HG.out]
    have R := (hB1.setBoth hn (s := 0) (t := (genOf st n + 1) % 4294967296) (by omega) (Nat.mod_lt _ (by decide))).drew
    go_ret
    exact ⟨rfl, R, (((hU.trans (hu1.mono (fun _ _ h => h.elim))).setB rfl _).setB rfl _).drew⟩

theorem Retire_ref (w : World) (r g cap : Nat) (st : St) (slot gen : Int) (h : RefAt w r g cap st) (h1 : -9223372036854775808 ≤ slot) (h2 : slot ≤ 9223372036854775807) (g1 : 0 ≤ gen) (g2 : gen < 4294967296) :
    Calls Try.prog 18 #[.pointer (some ⟨r, 0, none⟩), hv slot gen] w (RefTurned r g cap (leaveSt st slot gen 2) w (.int .i64 (leaveE st slot gen))) := by
  have hB := h.alloc (.cells #[.int .i64 slot, .int .u32 gen] 31)
  have hU : Upto (· = g) w (w.alloc (.cells #[.int .i64 slot, .int .u32 gen] 31)) := (Upto.refl _ w).alloc _
  have x0 := new_1 w #[.int .i64 slot, .int .u32 gen] 31 0 (.int .i64 slot) rfl
  have x1 := new_1 w #[.int .i64 slot, .int .u32 gen] 31 1 (.int .u32 gen) rfl
  clear h
  cases hl : liveB st slot gen
  · simp only [leaveSt, leaveE, hl]
    go_enter Try.func18, Try.ntmps18
    go_wp2_with (go_at_call 23; refine (Live_ref_to _ r g cap st slot gen _ hB h1 h2 g1 g2 hl).mono ?_; rintro e w1 ⟨rfl, hu1⟩)
    go_ret
    exact ⟨rfl, hB.upto hu1 id id, hU.trans (hu1.mono (fun _ _ h => h.elim))⟩
  · have hL := hl
    simp only [liveB, Bool.and_eq_true, decide_eq_true_eq, beq_iff_eq] at hL
    obtain ⟨⟨⟨k0, k1⟩, k2⟩, k3⟩ := hL
    obtain ⟨n, rfl⟩ := Int.eq_ofNat_of_zero_le k0
    simp only [Int.toNat_natCast] at k2 k3
    have hn : n < st.length := by omega
    have hS : leaveSt st n gen 2 = st.set n (2, (genOf st n + 1) % 4294967296) := by simp [leaveSt, hl, Md.leave]
    have hE : leaveE st n gen = 0 := by simp [leaveE, hl]
    rw [hS, hE]
    have hl' := Lib.hid hl
    have hgen : (gen + 1) % 4294967296 = (((genOf st n + 1) % 4294967296 : Nat) : Int) := by omega
    have HG := Lib.hid hgen
    have hlen := hB.len
    clear hl hS hE k0 k1 k2 k3 hgen
    go_enter Try.func18, Try.ntmps18
    go_wp2_with (go_at_call 23; refine (Live_ref_to _ r g cap st n gen _ hB h1 h2 g1 g2 hl'.out).mono ?_; rintro e w1 ⟨rfl, hu1⟩; have hB1 := hB.upto hu1 id id; have y0 := hu1.keep x0 id; have y1 := hu1.keep x1 id; have hh := hB1.head; have f0 := hB1.frozen (n * 2); have f1 := hB1.frozen (n * 2 + 1); have z0 := (hB1.cells hn).1; have z1 := (hB1.cells hn).2)
    go_still_tail 11, (by kernel_rfl)
    go_wp2
    rw [HG.out]
    have R := (hB1.setBoth hn (s := 2) (t := (genOf st n + 1) % 4294967296) (by omega) (Nat.mod_lt _ (by decide))).drew
    go_ret
    exact ⟨rfl, R, (((hU.trans (hu1.mono (fun _ _ h => h.elim))).setB rfl _).setB rfl _).drew⟩
end Go.Proofs.Ythfmngpocfofnaa
