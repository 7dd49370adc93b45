/- What EpochsEnd keeps, in plain Lean. -/
import Derived.Test.YtmmhjibgmpdjoaaWalkI
namespace Go.Proofs.Ytmmhjibgmpdjoaa
namespace Md
/-- What holds behind k acts. -/
structure EI (n k : Nat) (E : Ep) : Prop where
  len : E.ws.length = n
  now : E.now ≤ k
  many : E.wt.length ≤ k
  nodup : (E.wt.map Prod.fst).Nodup
theorem EI.start (n : Nat) : EI n 0 (fresh n) := ⟨by simp [fresh], Nat.le_refl _, Nat.le_refl _, List.nodup_nil⟩
theorem EI.mono {n k : Nat} {E : Ep} (h : EI n k E) : EI n (k + 1) E := ⟨h.len, by have := h.now; omega, by have := h.many; omega, h.nodup⟩
theorem EI.ann {n k : Nat} {E : Ep} (h : EI n k E) (i v : Int) : EI n (k + 1) (annSt E i v) := by
  unfold annSt
  split
  · exact ⟨by simpa using h.len, by have := h.now; show E.now ≤ _; omega, by have := h.many; show E.wt.length ≤ _; omega, h.nodup⟩
  · exact h.mono
theorem EI.adv {n k : Nat} {E : Ep} (h : EI n k E) : EI n (k + 1) (advSt E) := by
  unfold advSt
  split
  · exact ⟨h.len, by have := h.now; show E.now + 1 ≤ _; omega, by have := h.many; show E.wt.length ≤ _; omega, h.nodup⟩
  · exact h.mono
theorem EI.dfr {n k : Nat} {E : Ep} (h : EI n k E) (s : Int) : EI n (k + 1) (defSt E s) := by
  unfold defSt
  split
  · rename_i hd
    have hs : ¬ (s < 0 ∨ 256 ≤ s) := fun hc => by unfold defE at hd; rw [if_pos hc] at hd; omega
    have hh : has E.wt s = false := by
      unfold defE at hd
      rw [if_neg hs] at hd
      cases hb : has E.wt s
      · rfl
      · rw [hb] at hd; simp at hd
    refine ⟨h.len, by have := h.now; show E.now ≤ _; omega, by have := h.many; simp; omega, ?_⟩
    show ((E.wt ++ [(s.toNat, E.now)]).map Prod.fst).Nodup
    rw [List.map_append, List.nodup_append]
    refine ⟨h.nodup, by simp, fun a ha b hb => ?_⟩
    simp at hb
    subst hb
    intro e
    subst e
    obtain ⟨p, hp, hpe⟩ := List.mem_map.1 ha
    unfold has at hh
    rw [List.any_eq_false] at hh
    have := hh p hp
    simp at this
    omega
  · exact h.mono
/-- All who are in have announced the epoch: it goes on. -/
theorem adv_all {E : Ep} (h : ∀ i, i < E.ws.length → wAt E.ws i = -1 ∨ wAt E.ws i = E.now) : advB E = true := by
  unfold advB
  cases hb : E.ws.any (behB E.now)
  · rfl
  · obtain ⟨i, hi, hf⟩ := any_at.1 hb
    unfold behB at hf
    rcases h i hi with e | e <;> rw [e] at hf <;> simp at hf
theorem ripe_all {now : Nat} {ws : List Int} {wt : List (Nat × Nat)} (h : ∀ j, j < wt.length → (wt.getD j (0, 0)).2 ≤ now) : ripe ⟨now + 2, ws, wt⟩ = wt.map Prod.fst ∧ ripeSt ⟨now + 2, ws, wt⟩ = ⟨now + 2, ws, []⟩ := by
  have hall : ∀ p ∈ wt, overB (now + 2) p = true := fun p hp => by
    obtain ⟨j, hj, rfl⟩ := List.getElem_of_mem hp
    have := h j hj
    simp [hj] at this
    unfold overB
    simp; omega
  have e1 : wt.filter (overB (now + 2)) = wt := List.filter_eq_self.2 hall
  have e2 : wt.filter (fun p => !overB (now + 2) p) = [] := by rw [List.filter_eq_nil_iff]; intro p hp; simp [hall p hp]
  constructor
  · unfold ripe; show (wt.filter (overB (now + 2))).map Prod.fst = _; rw [e1]
  · unfold ripeSt; show Ep.mk (now + 2) ws (wt.filter (fun p => !overB (now + 2) p)) = _; rw [e2]
end Md
open Go Go.RowKit Go.Deep Md
theorem zero50 : ∀ w, (zeroValue 50).run Try.prog w = .ok (.agg (Array.replicate 256 (.bool false))) w := fun _ => by kernel_rfl
theorem within_256 (w : World) (n : Int) : Calls Try.prog 10 #[.int .i64 n, .int .i64 256] w fun e w' => e = .returned (.int .i64 (withinN n 256 : Nat)) ∧ w = w' := within_any w n 256 (by omega) (by omega)
end Go.Proofs.Ytmmhjibgmpdjoaa
