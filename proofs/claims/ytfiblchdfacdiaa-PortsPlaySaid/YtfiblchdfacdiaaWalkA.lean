/- Ports' lay, New, Fix, walked. -/
import Derived.Test.YtfiblchdfacdiaaAt
namespace Go.Proofs.Ytfiblchdfacdiaa
open Go Go.RowKit Go.Deep Go.Maps

/-- A row that is laid. -/
def newR (p oa ob ia ib : Nat) : Rw := ⟨p, oa, ob, ia, ib, 0, 1⟩
abbrev newA (p oa ob ia ib : Nat) : Array Value := #[.int .u8 p, .int .u32 oa, .int .u16 ob, .int .u32 ia, .int .u16 ib, .int .i64 0, .int .i64 1]
theorem new_row (w : World) (p oa ob ia ib : Nat) : (w.alloc (.cells (newA p oa ob ia ib) 42)).rowIs w.heap.size 42 7 (rwF (newR p oa ob ia ib)) :=
  World.rowIs_alloc w (newA p oa ob ia ib) 42 _ (fun i hi => by
    have : i < 7 := hi
    match i, this with
    | 0, _ => rfl | 1, _ => rfl | 2, _ => rfl | 3, _ => rfl | 4, _ => rfl | 5, _ => rfl | 6, _ => rfl)

set_option maxHeartbeats 1000000 in
theorem lay_any (w : World) (x rb ob : Nat) (T : List (Rw × Nat)) (p ia ib oa oq : Nat) (h : PsAt w x rb ob T) (hp : p < 256) (hia : ia < 4294967296) (hib : ib < 65536) (hoa : oa < 4294967296) (hoq : oq < 65536)
    (hO : fO T p oa oq = none) (hI : fI T p ia ib = none) (hT : T.length < 1000000) :
    Calls Try.prog 30 #[.pointer (some ⟨x, 0, none⟩), .int .u8 p, ev ia ib, ev oa oq] w fun e w' => e = .returned (.tuple #[]) ∧ ∃ k, w.heap.size ≤ k ∧ PsAt w' x rb ob (T ++ [(newR p oa oq ia ib, k)]) ∧ Upto (fun i => i = rb ∨ i = ob) w w' := by
  have h2 := (h.alloc (.cells #[.int .u32 ia, .int .u16 ib] 26)).alloc (.cells #[.int .u32 oa, .int .u16 oq] 26)
  have c0 := h2.c0
  have c1 := h2.c1
  obtain ⟨l1, hl1⟩ := key72 hp hoa hoq
  obtain ⟨l2, hl2⟩ := key72 hp hia hib
  have h3 := (h2.alloc (.cells (newA p oa oq ia ib) 42)).drew
  have c3 := (h2.alloc (.cells (newA p oa oq ia ib) 42)).c0
  have hno : ∀ k, ¬ (k = rb) → k = ob ∨ True := fun _ _ => .inr trivial
  obtain ⟨B1, hB1⟩ : ∃ B1 : Obj, B1 = .cells #[.int .u32 ia, .int .u16 ib] 26 := ⟨_, rfl⟩
  obtain ⟨B2, hB2⟩ : ∃ B2 : Obj, B2 = .cells #[.int .u32 oa, .int .u16 oq] 26 := ⟨_, rfl⟩
  have n1 := new_21 w #[.int .u32 ia, .int .u16 ib] #[.int .u32 oa, .int .u16 oq] 26 26
  have n2 := new_22 w #[.int .u32 ia, .int .u16 ib] #[.int .u32 oa, .int .u16 oq] 26 26
  have hnr := new_row ((w.alloc (.cells #[.int .u32 ia, .int .u16 ib] 26)).alloc (.cells #[.int .u32 oa, .int .u16 oq] 26)) p oa oq ia ib
  rw [World.size_alloc, World.size_alloc] at hnr
  have hua : Upto (fun i => i = rb ∨ i = ob) w (((w.alloc (.cells #[.int .u32 ia, .int .u16 ib] 26)).alloc (.cells #[.int .u32 oa, .int .u16 oq] 26)).alloc (.cells (newA p oa oq ia ib) 42)).drew := ((((Upto.refl _ w).alloc _).alloc _).alloc _).drew
  obtain ⟨w3, hr3, hm3, hu3, hs3, hd3⟩ := h3.rows.store keyed72 Try.underlying65 (by simp [maxLen]; omega) (.pointer (some ⟨w.heap.size + 1 + 1, 0, none⟩)) hl1 (PsAt.fO_none hO)
  have hrx : x ≠ rb := fun e => h3.rows.ne_row h3.row e.symm
  have hwx := h.lt
  have hrb := h.rows.lt
  have k0 := hu3.keep ((h2.alloc (.cells (newA p oa oq ia ib) 42)).drew.c1) (fun e => hrx e)
  have k1 := hu3.keep (keep_alloc (n1 0 _ rfl) (.cells (newA p oa oq ia ib) 42)) (fun e => by have e : w.heap.size = rb := e; omega)
  have k2 := hu3.keep (keep_alloc (n1 1 _ rfl) (.cells (newA p oa oq ia ib) 42)) (fun e => by have e : w.heap.size = rb := e; omega)
  have k3 := hu3.keep (keep_alloc (n2 0 _ rfl) (.cells (newA p oa oq ia ib) 42)) (fun e => by have e : w.heap.size + 1 = rb := e; omega)
  have k4 := hu3.keep (keep_alloc (n2 1 _ rfl) (.cells (newA p oa oq ia ib) 42)) (fun e => by have e : w.heap.size + 1 = rb := e; omega)
  have hm3o := (h3.of_.upto hu3 (fun e => h.ne e.symm)).drew
  obtain ⟨w4, hr4, hm4, hu4, hs4, hd4⟩ := hm3o.store keyed72 Try.underlying66 (by simp [maxLen]; omega) (ev oa oq) hl2 (PsAt.fI_none hI)
  have hlast : ∃ k, w.heap.size ≤ k ∧ PsAt w4 x rb ob (T ++ [(newR p oa oq ia ib, k)]) ∧ Upto (fun i => i = rb ∨ i = ob) w w4 := by
    have hu34 : Upto (fun i => i = rb ∨ i = ob) _ w4 := (hu3.mono (T := fun i => i = rb ∨ i = ob) (fun _ _ h => .inl h)).drew.trans (hu4.mono (T := fun i => i = rb ∨ i = ob) (fun _ _ h => .inr h))
    have hob : x ≠ ob := fun e => h3.of_.ne_row h3.row e.symm
    have hbk : ∀ r ∈ T, r.2 ≠ rb ∧ r.2 ≠ ob := fun r hr => ⟨fun e => h3.rows.ne_row (h3.blk r hr) e.symm, fun e => h3.of_.ne_row (h3.blk r hr) e.symm⟩
    refine ⟨w.heap.size + 1 + 1, by omega, ⟨hu34.row h3.row (by intro e; exact e.elim hrx hob), ?_, ?_, ?_, ?_, ?_, h.ne⟩, hua.trans hu34⟩
    · have := hm3.drew.upto hu4 (fun (e : rb = ob) => h.ne e)
      simpa [rowsL, newR] using this
    · simpa [ofL, newR] using hm4
    · intro r hr
      rcases List.mem_append.1 hr with hr | hr
      · exact hu34.row (h3.blk r hr) (fun e => e.elim (hbk r hr).1 (hbk r hr).2)
      · simp at hr
        subst hr
        exact hu34.row hnr (fun e => by have := h.of_.lt; omega)
    · rw [List.map_append, List.nodup_append]
      refine ⟨h.nodup, by simp, fun a ha b hb => ?_⟩
      simp at hb
      obtain ⟨r, hr, rfl⟩ := List.mem_map.1 ha
      have := (h.blk r hr).lt
      omega
    · intro r hr
      rcases List.mem_append.1 hr with hr | hr
      · exact h.ok r hr
      · simp at hr
        subst hr
        exact ⟨hp, hoa, hoq, hia, hib, by simp [newR], by simp [newR]⟩
  have HL := Lib.hid hlast
  clear hlast hm4 hu4 hs4 hd4 hm3o hm3 hu3 hs3 hd3 h3 hua hnr n1 n2 hno hB1 hB2
  go_enter Try.func30, Try.ntmps30
  go_wp2
  go_region
  go_wp2
  go_region
  go_end0
  exact ⟨rfl, HL.out⟩

/-- A fact on the world as it stands at a piece of code. -/
theorem at_world {P : Program} {c : Code} {Q : Exit → Act → World → Prop} {a : Act} {W : World} (φ : World → Prop) (h : φ W) (k : φ W → c.wp P Q a W) : c.wp P Q a W := k h

theorem Fix_busy (w : World) (x rb ob : Nat) (T : List (Rw × Nat)) (p ia ib oa oq : Nat) (r : Rw × Nat) (h : PsAt w x rb ob T) (hp : p < 256) (hia : ia < 4294967296) (hib : ib < 65536) (hoa : oa < 4294967296) (hoq : oq < 65536)
    (hI : fI T p ia ib = none) (hO : fO T p oa oq = some r) :
    Calls Try.prog 13 #[.pointer (some ⟨x, 0, none⟩), .int .u8 p, ev ia ib, ev oa oq] w (Told (.int .i64 10) w) := by
  have h2 := (h.alloc (.cells #[.int .u32 ia, .int .u16 ib] 26)).alloc (.cells #[.int .u32 oa, .int .u16 oq] 26)
  have c0 := h2.c0
  have c1 := h2.c1
  have c2 := (h2.alloc (.cells #[.int .u32 0, .int .u16 0] 26)).c1
  have hu : Upto NoS w _ := (((Upto.refl NoS w).alloc (.cells #[.int .u32 ia, .int .u16 ib] 26)).alloc (.cells #[.int .u32 oa, .int .u16 oq] 26)).alloc (.cells #[.int .u32 0, .int .u16 0] 26)
  have c3 := (h2.alloc (.cells #[.int .u32 0, .int .u16 0] 26)).c0
  have l1 := h2.drew.lookI_no hp hia hib hI
  have l2 := (h2.alloc (.cells #[.int .u32 0, .int .u16 0] 26)).drew.lookI_no hp hia hib hI
  go_enter Try.func13, Try.ntmps13
  go_wp2_with (go_at_call 29; refine (none_no _ _ _ _ _ h2).mono ?_; rintro e w' ⟨rfl, rfl⟩)
  go_region
  all_goals
    go_wp2
    have l4 := fun n => ((h2.alloc (.cells #[.int .u32 0, .int .u16 0] 26)).drewN n).lookO hp hoa hoq hO
    go_quiet (fail)
    go_wp2
    go_ret
    exact ⟨rfl, hu.drewN _⟩
theorem Fix_new (w : World) (x rb ob : Nat) (T : List (Rw × Nat)) (p ia ib oa oq : Nat) (h : PsAt w x rb ob T) (hp : p < 256) (hia : ia < 4294967296) (hib : ib < 65536) (hoa : oa < 4294967296) (hoq : oq < 65536)
    (hI : fI T p ia ib = none) (hO : fO T p oa oq = none) (hT : T.length < 1000000) :
    Calls Try.prog 13 #[.pointer (some ⟨x, 0, none⟩), .int .u8 p, ev ia ib, ev oa oq] w fun e w' => e = .returned (.int .i64 0) ∧ ∃ k, w.heap.size ≤ k ∧ PsAt w' x rb ob (T ++ [(newR p oa oq ia ib, k)]) ∧ Upto (fun i => i = rb ∨ i = ob) w w' := by
  have h2 := (h.alloc (.cells #[.int .u32 ia, .int .u16 ib] 26)).alloc (.cells #[.int .u32 oa, .int .u16 oq] 26)
  have c0 := h2.c0
  have c1 := h2.c1
  have c2 := (h2.alloc (.cells #[.int .u32 0, .int .u16 0] 26)).c1
  have hu : Upto NoS w _ := (((Upto.refl NoS w).alloc (.cells #[.int .u32 ia, .int .u16 ib] 26)).alloc (.cells #[.int .u32 oa, .int .u16 oq] 26)).alloc (.cells #[.int .u32 0, .int .u16 0] 26)
  have c3 := (h2.alloc (.cells #[.int .u32 0, .int .u16 0] 26)).c0
  have l1 := h2.drew.lookI_no hp hia hib hI
  have l2 := (h2.alloc (.cells #[.int .u32 0, .int .u16 0] 26)).drew.lookI_no hp hia hib hI
  go_enter Try.func13, Try.ntmps13
  go_wp2_with (go_at_call 29; refine (none_no _ _ _ _ _ h2).mono ?_; rintro e w' ⟨rfl, rfl⟩)
  go_region
  all_goals
    go_wp2
    have l4 := fun n => ((h2.alloc (.cells #[.int .u32 0, .int .u16 0] 26)).drewN n).lookO_no hp hoa hoq hO
    go_quiet (fail)
    go_wp2_with (go_at_call 30; refine (lay_any _ _ _ _ _ _ _ _ _ _ ((h.upto hu).drewN _) hp hia hib hoa hoq hO hI hT).mono ?_; rintro e w5 ⟨rfl, k5, hk5, h5, hu5⟩)
    go_ret
    have hu' := (hu.mono (T := fun i => i = rb ∨ i = ob) (fun _ _ h => h.elim)).drewN (1 + nq)
    have := hu'.size
    exact ⟨rfl, k5, by omega, h5, hu'.trans hu5⟩
end Go.Proofs.Ytfiblchdfacdiaa
