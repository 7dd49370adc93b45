/- The reference's New, walked. -/
import Derived.Test.YthfmngpocfofnaaRefE
namespace Go.Proofs.Ythfmngpocfofnaa
open Go Go.RowKit Go.Deep Md

theorem inf66 : (Try.prog.info? 66).map (fun i => (i.zero, i.size, i.bytes)) = some (some (.agg #[.int .i64 0, .int .u32 0]), 2, 16) := by kernel_rfl
theorem hcl_fresh (k : Nat) : hcl (fresh (k + 1)) = hcl (fresh k) ++ [.int .i64 0, .int .u32 1] := by
  rw [show fresh (k + 1) = fresh k ++ [(0, 1)] from List.replicate_succ', hcl_snoc]; rfl
theorem own_rebase {w : World} {base e size n g c : Nat} {xs : List Value} (h : w.ownsRow base e size (.slice (some ⟨g, 0, none⟩) n c) n xs) : w.ownsRow g e size (.slice (some ⟨g, 0, none⟩) n c) n xs := by
  refine ⟨h.1, ?_⟩
  rcases h.2 with hn | ⟨g', cap, cur, hv, hb, rest⟩
  · exact .inl hn
  · have : g' = g := by simp at hv; omega
    subst this
    exact .inr ⟨g', cap, cur, hv, Nat.le_refl _, rest⟩
def RefMade (n : Nat) (w : World) (e : Ending) (w' : World) : Prop := e = .returned (.tuple #[.pointer (some ⟨w.heap.size, 0, none⟩), .int .i64 0]) ∧ (∃ g cap, w.heap.size < g ∧ RefAt w' w.heap.size g cap (fresh n)) ∧ Upto NoS w w'

set_option maxRecDepth 100000 in
theorem New_ref (w : World) (n : Nat) (h1 : 1 ≤ n) (h2 : n ≤ 256) : Calls Try.prog 15 #[.int .i64 n] w (RefMade n w) := by
  obtain ⟨i0, hi, hz0, hz1, hz2⟩ := info_parts inf66
  go_enter Try.func15, Try.ntmps15
  go_wp2_with fail
  go_loopw [5] (fun i wr => ∃ (k : Nat) (v : Value), k ≤ n ∧ i = .int .i64 k ∧ wr.rowIs w.heap.size 64 1 (fun _ => v) ∧ wr.ownsRow (w.heap.size + 1) 66 2 v k (hcl (fresh k)) ∧ Upto NoS w wr)
    (fun i _ => n - (intOf i).toNat)
  case atStart => exact ⟨0, _, by omega, rfl, World.rowIs_alloc _ _ _ _ (by intro i hi; match i, hi with | 0, _ => rfl), World.ownsRow_nil _ _ _ _, (Upto.refl _ _).alloc _⟩
  case round =>
    obtain ⟨k, v, hk, rfl, hR, hown, hU⟩ := hrel
    have hRl := hR.lt
    have r0 := hR.cell (i := 0) (by omega)
    by_cases hlt : k < n
    · go_wp2_with (at_builtin; refine wpList_append_own _ rfl (.tmp 23) (.tmp 25) 62 rfl (w.heap.size + 1) 66 i0 (.agg #[.int .i64 0, .int .u32 0]) 2 16 Try.underlying62 hi hz0 hz1 hz2 rfl (by decide) _ _ _ rfl (hown.alloc _) ⟨wr.heap.size, 0, none⟩ 1 1 [.int .i64 0, .int .u32 1] rfl rfl ?c1 ?c2 ?c3 ?c4 ?c5 ?_)
      case c1 => exact pair_new _ _ _ _
      case c2 => intro u hu; simp at hu; rcases hu with rfl | rfl <;> rfl
      case c3 => unfold maxLen; omega
      case c4 => omega
      case c5 => simp; omega
      intro v' w4 hown4 hg4 _
      rw [← hcl_fresh] at hown4
      have hne : ¬ (v.ownBlock = some w.heap.size) := fun h => own_ne hown (b := w.heap.size) (by omega) _ h rfl
      have R4 := (Upto.of_grown hg4).row (hR.alloc (.cells #[.int .i64 0, .int .u32 1] 66)) hne
      have hU4 : Upto NoS w w4 := (hU.alloc (.cells #[.int .i64 0, .int .u32 1] 66)).grown hg4 (fun j hj hlt => by have := (hown.lt j hj).1; omega)
      have r4 := R4.cell (i := 0) (by omega)
      have f4 := R4.frozen 0
      clear hg4
      obtain ⟨g4, cp4, rfl, _, _⟩ := own_form hown4 (by omega)
      go_wp2
      go_roundw
      case rel =>
        have hu5 : Upto (· = w.heap.size) w4 (w4.setCell ⟨w.heap.size, 0, none⟩ (.slice (some ⟨g4, 0, none⟩) (k + 1) cp4)) := (Upto.refl (fun x => x = w.heap.size) w4).setB rfl _
        exact ⟨k + 1, _, by omega, by go_num, (R4.set 0 (.slice (some ⟨g4, 0, none⟩) (k + 1) cp4)).congr (fun j hj => by rw [if_pos (by omega)]), hu5.own hown4 (own_ne hown4 (by omega)), hU4.setNew (Nat.le_refl _) _⟩
      case measure => simp [intOf]; omega
    · obtain rfl : n = k := by omega
      obtain ⟨g, cp, rfl, hg1, hg2⟩ := own_form hown (by omega)
      go_wp2
      go_ret2
      exact ⟨rfl, ⟨g, cp, by omega, ⟨by simpa [fresh] using r0, by simpa [fresh] using own_rebase hown, by omega, Ok.fresh h2, by simp [fresh]; omega⟩⟩, hU⟩
end Go.Proofs.Ythfmngpocfofnaa
