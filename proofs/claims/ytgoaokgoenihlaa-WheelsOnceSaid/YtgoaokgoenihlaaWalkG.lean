/- A wheel's Turn, walked. -/
import Derived.Test.YtgoaokgoenihlaaWalkF
import Derived.Test.YtgoaokgoenihlaaSorted
import Derived.Test.YtgoaokgoenihlaaHcl
import Derived.Laws.AppendOwnNone
namespace Go.Proofs.Ytgoaokgoenihlaa
open Go Go.RowKit Go.Deep Go.Maps

theorem Turn_arg (w : World) (x g m : Nat) (vs : Nat → Value) (S : Wh) (now : Int) (h : WhIn w x g m vs S) (hn : now < S.last ∨ 1099511627776 < now) :
    Calls Try.prog 12 #[.pointer (some ⟨x, 0, none⟩), .int .i64 now] w (Told (.tuple #[.slice none 0 0, .int .i64 2]) w) := by
  have c2 := h.c2
  rcases hn with hn | hn
  · go_enter Try.func12, Try.ntmps12
    go_wp2_with (go_at_call 25; refine (none_no _ _ _ _ _ _ h).mono ?_; rintro e w' ⟨rfl, rfl⟩)
    go_ret2
    exact ⟨rfl, Upto.refl _ _⟩
  · by_cases hl : now < S.last
    · go_enter Try.func12, Try.ntmps12
      go_wp2_with (go_at_call 25; refine (none_no _ _ _ _ _ _ h).mono ?_; rintro e w' ⟨rfl, rfl⟩)
      go_ret2
      exact ⟨rfl, Upto.refl _ _⟩
    · go_enter Try.func12, Try.ntmps12
      go_wp2_with (go_at_call 25; refine (none_no _ _ _ _ _ _ h).mono ?_; rintro e w' ⟨rfl, rfl⟩)
      go_ret2
      exact ⟨rfl, Upto.refl _ _⟩

theorem tcl_one' {L : List Tm} : ∀ u ∈ tcl L, u.oneCell' = true := fun _ hu => tcl_mem hu

/-- Its last tick is stored. -/
theorem WhMid.setLast {w : World} {x g m : Nat} {vs : Nat → Value} {n last : Nat} {pf : Nat → List Tm} {L : List (Value × Value)} (h : WhMid w x g m vs n last pf L) (now : Nat) :
    WhMid (w.setCell ⟨x, 2, none⟩ (.int .i64 (now : Nat))) x g m vs n now pf L := by
  have hu : Upto (fun k => k = x) w (w.setCell ⟨x, 2, none⟩ (.int .i64 (now : Nat))) := (Upto.refl (fun k => k = x) w).setB rfl _
  have hgx := h.gx
  have hmx := h.mx
  refine ⟨(h.row.set 2 _).congr (fun i hi => ?_), hu.row h.pl (fun e => by have e : g = x := e; omega), fun k hk => hu.own (h.each k hk) (fun b hb e => by have := h.vlt hk hb; have e : b = x := e; omega), h.apart, h.mp.upto hu (fun e => by have e : m = x := e; omega), h.gx, h.mx⟩
  rcases (show i = 0 ∨ i = 1 ∨ i = 2 by omega) with rfl | rfl | rfl <;> rfl
/-- A map's entry, and all others. -/
theorem drop_parts {E : List Tm} (hn : (E.map Tm.h).Nodup) {t : Tm} (ht : t ∈ E) (f : Tm → Value) :
    ∃ L1 L2, E.map (fun t => (hv t.h, f t)) = L1 ++ (hv t.h, f t) :: L2 ∧ (E.filter fun u => !(u.h == t.h)).map (fun t => (hv t.h, f t)) = L1 ++ L2 := by
  obtain ⟨E1, E2, hE⟩ := List.append_of_mem ht
  refine ⟨E1.map (fun t => (hv t.h, f t)), E2.map (fun t => (hv t.h, f t)), ?_, ?_⟩
  · rw [hE]; simp
  · rw [hE, List.map_append, List.map_cons, List.nodup_append] at hn
    obtain ⟨_, h2, h3⟩ := hn
    rw [List.nodup_cons] at h2
    have e1 : E1.filter (fun u => !(u.h == t.h)) = E1 := List.filter_eq_self.2 fun u hu => by
      have := h3 u.h (List.mem_map_of_mem hu) t.h (List.mem_cons_self)
      simpa using this
    have e2 : E2.filter (fun u => !(u.h == t.h)) = E2 := List.filter_eq_self.2 fun u hu => by
      have : ¬ u.h = t.h := fun e => h2.1 (by rw [← e]; exact List.mem_map_of_mem hu)
      simpa using this
    rw [hE, List.filter_append, e1, List.filter_cons]
    simp [e2]
/-- Those that are still in the map when the first j of a list are out. -/
def Wh.left (S : Wh) (R : List Tm) (j : Nat) : List Tm := S.E.filter fun t => !((R.take j).any fun u => u.h == t.h)
theorem Wh.left_zero (S : Wh) (R : List Tm) : S.left R 0 = S.E := by simp [Wh.left]
theorem Wh.left_succ (S : Wh) (R : List Tm) (j : Nat) (hj : j < R.length) : S.left R (j + 1) = (S.left R j).filter fun u => !(u.h == (tmAt R j).h) := by
  unfold Wh.left tmAt
  rw [List.filter_filter, List.take_succ_eq_append_getElem hj, tm_at R j hj]
  refine List.filter_congr fun u _ => ?_
  rw [List.any_append]
  cases (R.take j).any fun v => v.h == u.h <;> simp [Bool.beq_comm, eq_comm]
  all_goals rw [Bool.eq_iff_iff]; simp [eq_comm]
theorem Wh.left_mem {S : Wh} (hS : S.Ok) {R : List Tm} (hp : R.Nodup) (hR : ∀ t ∈ R, t ∈ S.E) {j : Nat} (hj : j < R.length) : tmAt R j ∈ S.left R j := by
  unfold tmAt
  rw [tm_at R j hj]
  refine List.mem_filter.2 ⟨hR _ (List.getElem_mem hj), ?_⟩
  rw [Bool.not_eq_true', List.any_eq_false]
  intro u hu
  obtain ⟨i, hi, rfl⟩ := List.getElem_of_mem hu
  have hij : i < j := by simp at hi; omega
  rw [List.getElem_take]
  simp only [beq_iff_eq]
  intro e
  have e2 := nodup_inj hS.nodup (hR _ (List.getElem_mem (by omega : i < R.length))) (hR _ (List.getElem_mem hj)) e
  exact (List.pairwise_iff_getElem.1 hp i j (by omega) hj hij) e2
theorem Wh.left_nodup {S : Wh} (hS : S.Ok) (R : List Tm) (j : Nat) : ((S.left R j).map Tm.h).Nodup := nodup_filter hS.nodup
theorem Wh.left_all {S : Wh} (hS : S.Ok) (now : Nat) : S.left (S.told now) (S.told now).length = (S.turn now).E := by
  unfold Wh.left Wh.turn
  rw [List.take_length]
  refine List.filter_congr fun t ht => ?_
  congr 1
  rw [Bool.eq_iff_iff, List.any_eq_true]
  simp only [decide_eq_true_eq, beq_iff_eq]
  constructor
  · rintro ⟨u, hu, e⟩
    have hu1 := (srt_perm _).mem_iff.1 hu
    obtain ⟨h1, h2⟩ := List.mem_filter.1 hu1
    have := nodup_inj hS.nodup h1 ht e
    subst this
    simpa using h2
  · intro hd
    exact ⟨t, (srt_perm _).mem_iff.2 (List.mem_filter.2 ⟨ht, by simpa using hd⟩), rfl⟩
theorem Wh.told_nodup {S : Wh} (hS : S.Ok) (now : Nat) : (S.told now).Nodup := by
  refine (srt_perm _).nodup_iff.2 ?_
  have h1 : S.E.Nodup := by
    have := hS.nodup
    rw [List.nodup_iff_pairwise_ne, List.pairwise_map] at this
    exact this.imp fun h e => h (by rw [e])
  exact h1.sublist List.filter_sublist
theorem Wh.told_mem {S : Wh} {now : Nat} : ∀ t ∈ S.told now, t ∈ S.E := fun _ ht => (List.mem_filter.1 ((srt_perm _).mem_iff.1 ht)).1
theorem Wh.told_le {S : Wh} {now : Nat} : (S.told now).length ≤ S.E.length := by
  unfold Wh.told; rw [srt_len]; exact List.length_filter_le _ _
theorem Wh.turn_ent {S : Wh} {now : Nat} (hn : S.last ≤ now) : (S.turn now).E.map (ent S.n S.last) = (S.turn now).E.map (ent S.n now) := by
  refine List.map_congr_left fun t ht => ?_
  have h1 : ¬ t.d ≤ now := by
    have := (List.mem_filter.1 ht).2
    simpa using this
  have e : plc S.n S.last t.d = plc S.n now t.d := by unfold plc; congr 1; omega
  unfold ent spv
  rw [e]
end Go.Proofs.Ytgoaokgoenihlaa
