/- Ports' Take, where the inner endpoint has no row: the loop. -/
import Derived.Test.YtfiblchdfacdiaaTakeA
namespace Go.Proofs.Ytfiblchdfacdiaa
open Go Go.RowKit Go.Deep Go.Maps
attribute [local go_sem] Oper.semAt_some

theorem at_in (W : Ws) (h2 : W.fr ≤ W.tu) (i : Nat) : W.fr ≤ W.at i ∧ W.at i ≤ W.tu := by
  have hn : 0 < W.n := by unfold Ws.n; omega
  have hm : (W.dr + i) % W.n < W.n := Nat.mod_lt _ hn
  unfold Ws.at
  unfold Ws.n at hm ⊢
  omega
theorem part_in (W : Ws) (h2 : W.fr ≤ W.tu) (k i : Nat) : ∀ y ∈ W.part k i, W.fr ≤ y ∧ y ≤ W.tu := by
  intro y hy
  unfold Ws.part at hy
  obtain ⟨j, _, rfl⟩ := List.mem_map.1 (List.mem_filter.1 hy).1
  exact at_in W h2 j
theorem tried_in (W : Ws) (h2 : W.fr ≤ W.tu) : ∀ y ∈ W.tried, W.fr ≤ y ∧ y ≤ W.tu := by
  intro y hy
  unfold Ws.tried Ws.done at hy
  rw [if_pos (by omega), if_pos (by omega)] at hy
  rcases List.mem_append.1 hy with hy | hy
  · rcases List.mem_append.1 hy with hy | hy
    · unfold Ws.own at hy
      split at hy
      · simp at hy; omega
      · simp at hy
    · exact part_in W h2 _ _ y hy
  · exact part_in W h2 _ _ y hy

set_option maxRecDepth 100000 in
set_option maxHeartbeats 1000000 in
theorem take_loop {Q : Exit → Act → World → Prop} (w0 : World) (x rb ob B C : Nat) (T : List (Rw × Nat)) (W : Ws) (hWk : W.Ok) (hW : W.may) (hT : T.length < 1000000) (hI : fI T W.p W.ia W.ib = none) (hB : w0.heap.size ≤ B) (h0 : PsAt w0 x rb ob T)
    (W6 : World) (hBM : B + 1 + 1 + 1 < W6.heap.size) (q6 : PsAt W6 x rb ob T) (p6 : TkF W6 x B (B + 1) (B + 1 + 1) (B + 1 + 1 + 1) W) (u6 : Upto NoS w0 W6)
    (hdone : ∀ (D : Nat) (w' : World), W6.heap.size ≤ D → TkJ w0 x rb ob B W6.heap.size T W W.tried w' → w'.heap[D]? = some (.deferred (some [])) → Q .normal { tmps := #[Value.pointer (some ⟨x, 0, none⟩), wv W, Value.pointer (some ⟨B, 0, none⟩), Value.pointer (some ⟨B + 1, 0, none⟩), Value.pointer (some ⟨B + 1 + 1, 0, none⟩), Value.pointer (some ⟨B + 1 + 1 + 1, 0, none⟩),  Value.pointer (some ⟨C, 0, none⟩), Value.bool false, undef, undef, Value.pointer (some ⟨x, 0, none⟩), Value.bool false, undef, wv W, Value.bool true, Value.bool false, undef, Value.tuple #[ev 0 0, Value.bool false],  Value.pointer (some ⟨x, 0, none⟩), Value.pointer (some ⟨x, 0, none⟩), Value.pointer (some ⟨x, 1, none⟩), Value.map (some ob), Value.pointer (some ⟨B + 1, 0, none⟩), Value.int .u8 (W.p : Nat), Value.pointer (some ⟨B + 1, 1, none⟩),  ev W.ia W.ib, kv W.p W.ia W.ib, Value.tuple #[ev 0 0, Value.bool false], ev 0 0, Value.bool false, Value.bool false, undef, undef, undef, undef, undef, undef, undef, undef, undef, undef, undef, undef, undef, undef, undef, undef, undef, undef, undef, undef, undef, undef, undef, undef, undef, undef, undef, undef, undef, undef, undef, undef, undef, undef, undef, undef, wv W, Value.func (Fn.func 32) #[wv W] #[], undef, undef, undef, undef, undef, undef, undef, undef, undef, undef, undef, undef, undef, undef, undef, undef, undef, undef, undef, undef, undef, undef, undef, undef], defers := [{ target := .collected D, args := #[] }] } w')
    (hstop : ∀ (D : Nat) (pre : List Nat) (w' : World), W6.heap.size ≤ D → pre <+: W.tried → TkX w0 x rb ob B T W pre w' → w'.heap[D]? = some (.deferred (some [])) → Code.ret.wpIn Fence.wide (3 + 1) Try.prog Q { tmps := #[Value.pointer (some ⟨x, 0, none⟩), wv W, Value.pointer (some ⟨B, 0, none⟩), Value.pointer (some ⟨B + 1, 0, none⟩), Value.pointer (some ⟨B + 1 + 1, 0, none⟩), Value.pointer (some ⟨B + 1 + 1 + 1, 0, none⟩),  Value.pointer (some ⟨C, 0, none⟩), Value.bool false, undef, undef, Value.pointer (some ⟨x, 0, none⟩), Value.bool false, undef, wv W, Value.bool true, Value.bool false, undef, Value.tuple #[ev 0 0, Value.bool false],  Value.pointer (some ⟨x, 0, none⟩), Value.pointer (some ⟨x, 0, none⟩), Value.pointer (some ⟨x, 1, none⟩), Value.map (some ob), Value.pointer (some ⟨B + 1, 0, none⟩), Value.int .u8 (W.p : Nat), Value.pointer (some ⟨B + 1, 1, none⟩),  ev W.ia W.ib, kv W.p W.ia W.ib, Value.tuple #[ev 0 0, Value.bool false], ev 0 0, Value.bool false, Value.bool false, undef, undef, undef, undef, undef, undef, undef, undef, undef, undef, undef, undef, undef, undef, undef, undef, undef, undef, undef, undef, undef, undef, undef, undef, undef, undef, undef, undef, undef, undef, undef, undef, undef, undef, undef, undef, wv W, Value.func (Fn.func 32) #[wv W] #[], undef, undef, undef, undef, undef, undef, undef, undef, undef, undef, undef, undef, undef, undef, undef, undef, undef, undef, undef, undef, undef, undef, undef, undef], defers := [{ target := .collected D, args := #[] }] } w') :
    takeRange.wpIn Fence.wide (3 + 1) Try.prog Q { tmps := #[Value.pointer (some ⟨x, 0, none⟩), wv W, Value.pointer (some ⟨B, 0, none⟩), Value.pointer (some ⟨B + 1, 0, none⟩), Value.pointer (some ⟨B + 1 + 1, 0, none⟩), Value.pointer (some ⟨B + 1 + 1 + 1, 0, none⟩),  Value.pointer (some ⟨C, 0, none⟩), Value.bool false, undef, undef, Value.pointer (some ⟨x, 0, none⟩), Value.bool false, undef, wv W, Value.bool true, Value.bool false, undef, Value.tuple #[ev 0 0, Value.bool false],  Value.pointer (some ⟨x, 0, none⟩), Value.pointer (some ⟨x, 0, none⟩), Value.pointer (some ⟨x, 1, none⟩), Value.map (some ob), Value.pointer (some ⟨B + 1, 0, none⟩), Value.int .u8 (W.p : Nat), Value.pointer (some ⟨B + 1, 1, none⟩),  ev W.ia W.ib, kv W.p W.ia W.ib, Value.tuple #[ev 0 0, Value.bool false], ev 0 0, Value.bool false, Value.bool false, undef, undef, undef, undef, undef, undef, undef, undef, undef, undef, undef, undef, undef, undef, undef, undef, undef, undef, undef, undef, undef, undef, undef, undef, undef, undef, undef, undef, undef, undef, undef, undef, undef, undef, undef, undef, wv W, Value.func (Fn.func 32) #[wv W] #[], undef, undef, undef, undef, undef, undef, undef, undef, undef, undef, undef, undef, undef, undef, undef, undef, undef, undef, undef, undef, undef, undef, undef, undef], defers := [] } W6 := by
  have hs0 := u6.size
  have hrb := h0.rows.lt
  have hob := h0.of_.lt
  conv => arg 4; whnf
  refine range_method (n := 3) (gf := 32) (bd := #[wv W]) rfl (enters_of Try.func32 (by kernel_rfl) rfl) (tried_iter 3 (by omega) W hWk hW.1 hW.2)
    (fun pre W' => TkJ w0 x rb ob B W6.heap.size T W pre W') (fun pre W' => TkX w0 x rb ob B T W pre W')
    (tkJ_own (by omega) (by omega) hs0) (tkX_own (by omega) (by omega) hs0) ⟨q6, p6, u6, Nat.le_refl _, by simp⟩ (fun q => { tmps := #[Value.pointer (some ⟨x, 0, none⟩), wv W, Value.pointer (some ⟨B, 0, none⟩), Value.pointer (some ⟨B + 1, 0, none⟩), Value.pointer (some ⟨B + 1 + 1, 0, none⟩), Value.pointer (some ⟨B + 1 + 1 + 1, 0, none⟩),  Value.pointer (some ⟨C, 0, none⟩), Value.bool false, .int .u16 (q : Nat), undef, Value.pointer (some ⟨x, 0, none⟩), Value.bool false, undef, wv W, Value.bool true, Value.bool false, undef, Value.tuple #[ev 0 0, Value.bool false],  Value.pointer (some ⟨x, 0, none⟩), Value.pointer (some ⟨x, 0, none⟩), Value.pointer (some ⟨x, 1, none⟩), Value.map (some ob), Value.pointer (some ⟨B + 1, 0, none⟩), Value.int .u8 (W.p : Nat), Value.pointer (some ⟨B + 1, 1, none⟩),  ev W.ia W.ib, kv W.p W.ia W.ib, Value.tuple #[ev 0 0, Value.bool false], ev 0 0, Value.bool false, Value.bool false, undef, undef, undef, undef, undef, undef, undef, undef, undef, undef, undef, undef, undef, undef, undef, undef, undef, undef, undef, undef, undef, undef, undef, undef, undef, undef, undef, undef, undef, undef, undef, undef, undef, undef, undef, undef, wv W, Value.func (Fn.func 32) #[wv W] #[], .int .u16 (q : Nat), undef, undef, undef, undef, undef, undef, undef, undef, undef, undef, undef, undef, undef, undef, undef, undef, undef, undef, undef, undef, undef, undef, undef], defers := [] }) ?assign ?body ?done ?stop
  case assign =>
    intro l q W' K hK
    gi_wp2
    exact hK
  case body =>
    intro l pre q W' hJ hpre
    have hq : q < 65536 := by
      have := (tried_in W hW.2 q (hpre.subset (by simp))).2
      have := hWk.tu
      omega
    exact take_round w0 x rb ob B C W6.heap.size W6.heap.size T W hWk hT hI hB hBM hBM h0 l pre q W' hq hJ
  case done =>
    intro D w' hD hJ hK
    exact hdone D w' hD hJ hK
  case stop =>
    intro D pre w' hD hp hX hK
    exact hstop D pre w' hD hp hX hK
end Go.Proofs.Ytfiblchdfacdiaa
