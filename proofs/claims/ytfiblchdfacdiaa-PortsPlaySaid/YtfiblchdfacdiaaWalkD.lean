/- Ports' settle, Confirm, Drop, Release: walked. -/
import Derived.Test.YtfiblchdfacdiaaTakeH
import Derived.StillTail
namespace Go.Proofs.Ytfiblchdfacdiaa
open Go Go.RowKit Go.Deep Go.Maps

theorem settle_keep (w : World) (x rb ob : Nat) (T : List (Rw × Nat)) (r : Rw × Nat) (h : PsAt w x rb ob T) (hr : r ∈ T) (hn : 0 < r.1.live + r.1.held) :
    Calls Try.prog 34 #[.pointer (some ⟨x, 0, none⟩), .pointer (some ⟨r.2, 0, none⟩)] w (Told (.tuple #[]) w) := by
  obtain ⟨d0, d1, d2, d3, d4, d5, d6⟩ := rw_cells (h.blk _ hr)
  have hok := h.ok _ hr
  have h1 := hok.live
  have h2 := hok.held
  have hwr : IntKind.i64.wrap ((r.1.live : Int) + r.1.held) = (r.1.live : Int) + r.1.held := IntWalk.i64_in _ (by omega)
  have hz : (((r.1.live : Int) + r.1.held) == 0) = false := by simp; omega
  clear h hok
  go_enter Try.func34, Try.ntmps34
  go_upto_region 5 with (fail)
  go_quiet (fail)
  go_wp2
  go_end0
  exact ⟨rfl, (Upto.refl _ _).drewN _⟩

theorem PsAt.dropped {w w' : World} {x rb ob : Nat} {T1 T2 : List (Rw × Nat)} {r : Rw × Nat} (h : PsAt w x rb ob (T1 ++ r :: T2)) (hu : Upto (fun k => k = rb ∨ k = ob) w w')
    (h1 : MapAt Try.prog 72 w' rb (rowsL (T1 ++ T2))) (h2 : MapAt Try.prog 72 w' ob (ofL (T1 ++ T2))) : PsAt w' x rb ob (T1 ++ T2) := by
  have hx : ¬ (x = rb ∨ x = ob) := fun e => e.elim (fun e => h.rows.ne_row h.row e.symm) (fun e => h.of_.ne_row h.row e.symm)
  have hsub : ∀ s, s ∈ T1 ++ T2 → s ∈ T1 ++ r :: T2 := fun s hs => by
    rcases List.mem_append.1 hs with hs | hs
    · exact List.mem_append_left _ hs
    · exact List.mem_append_right _ (List.mem_cons_of_mem _ hs)
  have hsl : (T1 ++ T2).Sublist (T1 ++ r :: T2) := List.Sublist.append (List.Sublist.refl T1) (List.sublist_cons_self r T2)
  refine ⟨hu.row h.row hx, h1, h2, fun s hs => hu.row (h.blk s (hsub s hs)) (fun e => ?_), h.nodup.sublist (hsl.map _), fun s hs => h.ok s (hsub s hs), h.ne⟩
  rcases e with e | e
  · exact h.rows.ne_row (h.blk s (hsub s hs)) e.symm
  · exact h.of_.ne_row (h.blk s (hsub s hs)) e.symm

set_option maxRecDepth 100000 in
theorem settle_go (w : World) (x rb ob : Nat) (T1 T2 : List (Rw × Nat)) (r : Rw) (kb : Nat) (h : PsAt w x rb ob (T1 ++ (r, kb) :: T2)) (hl : r.live = 0) (hh : r.held = 0) :
    Calls Try.prog 34 #[.pointer (some ⟨x, 0, none⟩), .pointer (some ⟨kb, 0, none⟩)] w fun e w' => e = .returned (.tuple #[]) ∧ PsAt w' x rb ob (T1 ++ T2) ∧ Upto (fun k => k = rb ∨ k = ob) w w' := by
  obtain ⟨p, oa, oq, ia, ib, live, held⟩ := r
  have hl : live = 0 := hl
  have hh : held = 0 := hh
  subst hl; subst hh
  have hr : ((⟨p, oa, oq, ia, ib, 0, 0⟩ : Rw), kb) ∈ T1 ++ ((⟨p, oa, oq, ia, ib, 0, 0⟩ : Rw), kb) :: T2 := by simp
  have hok := h.ok _ hr
  obtain ⟨l1, hl1⟩ := key72 hok.p hok.oa hok.ob
  obtain ⟨l2, hl2⟩ := key72 hok.p hok.ia hok.ib
  obtain ⟨d0, d1, d2, d3, d4, d5, d6⟩ := rw_cells (h.blk _ hr)
  go_enter Try.func34, Try.ntmps34
  go_upto_region 5 with (fail)
  go_quiet (fail)
  go_wp2
  have H := (h.drewN nq).drew
  have hu0 : Upto NoS w (w.drewN nq).drew := ((Upto.refl NoS w).drewN nq).drew
  have hbx : kb ≠ rb := fun e => H.rows.ne_row (H.blk _ hr) e.symm
  have hxb : x ≠ rb := fun e => H.rows.ne_row H.row e.symm
  obtain ⟨w3, hr3, hm3, hu3, hs3, _⟩ := H.rows.drop (ty := 0) (v := .pointer (some ⟨kb, 0, none⟩)) (L1 := rowsL T1) (L2 := rowsL T2) keyed72 Try.underlying65 hl1 (by simp [rowsL])
  have H3 := (hu3.mono (T := fun k => k = rb ∨ k = ob) (fun _ _ e => .inl e))
  obtain ⟨d0, d1, d2, d3, d4, d5, d6⟩ := rw_cells (H.blk _ hr)
  have c0 := H.c0
  refine wp_region_still_tail 13 (by kernel_rfl) (by kernel_rfl) ?_
  simp only [List.take_succ_cons, List.take_zero, List.drop_succ_cons, List.drop_zero]
  change wpStill _ _ (w.drewN nq).drew _ _ _
  change wpStill _ _ _ (fun a' => wpList _ _ _ _ a' (w.drewN nq).drew) _ _
  generalize (w.drewN nq).drew = W4 at H hu0 hr3 hu3 hs3 hm3 H3 d0 d1 d2 d3 d4 d5 d6 c0 ⊢
  repeat (first | still_step)
  refine wpStill_nil ?_
  go_wp2_with fail
  have hrow3 := hu3.row (H.blk _ hr) hbx
  have hm3o := (H.of_.upto hu3 (fun e => h.ne e.symm)).drew
  obtain ⟨w5, hr5, hm5, hu5, hs5, _⟩ := hm3o.drop (ty := 0) (v := ev oa oq) (L1 := ofL T1) (L2 := ofL T2) keyed72 Try.underlying66 hl2 (by simp [ofL])
  obtain ⟨d0, d1, d2, d3, d4, d5, d6⟩ := rw_cells (w := w3.drew) hrow3
  have c1 : w3.drew.cell? ⟨x, 1, none⟩ = some (.map (some ob)) := hu3.keep H.c1 (fun e => hxb e)
  refine wp_region_still_tail 13 (by kernel_rfl) (by kernel_rfl) ?_
  simp only [List.take_succ_cons, List.take_zero, List.drop_succ_cons, List.drop_zero]
  change wpStill _ _ w3.drew _ _ _
  change wpStill _ _ _ (fun a' => wpList _ _ _ _ a' w3.drew) _ _
  have hu35 : Upto (fun k => k = rb ∨ k = ob) W4 w5 := H3.drew.trans (hu5.mono (T := fun k => k = rb ∨ k = ob) (fun _ _ e => .inr e))
  have hfin : PsAt w5 x rb ob (T1 ++ T2) := by
    refine H.dropped hu35 ?_ ?_
    · have := hm3.drew.upto hu5 (fun (e : rb = ob) => h.ne e)
      simpa [rowsL] using this
    · simpa [ofL] using hm5
  have HF := Lib.hid hfin
  have HU := Lib.hid ((hu0.mono (T := fun k => k = rb ∨ k = ob) (fun _ _ e => e.elim)).trans hu35)
  clear hfin hu35 hm3o hrow3 hu3 hs3 hm3 hs5 hm5 H H3 hu0 h
  generalize w3.drew = W6 at hr5 hu5 d0 d1 d2 d3 d4 d5 d6 c1 ⊢
  repeat (first | still_step)
  refine wpStill_nil ?_
  go_wp2_with fail
  go_end0
  exact ⟨rfl, HF.out, HU.out⟩
end Go.Proofs.Ytfiblchdfacdiaa
