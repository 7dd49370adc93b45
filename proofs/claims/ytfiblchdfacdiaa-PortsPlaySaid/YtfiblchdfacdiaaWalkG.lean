/- Ports' List, walked. -/
import Derived.Test.YtfiblchdfacdiaaSorted
import Derived.Test.YtfiblchdfacdiaaMapRange
namespace Go.Proofs.Ytfiblchdfacdiaa
open Go Go.RowKit Go.Deep Go.Maps

theorem Try.info42 : (Try.prog.info? 42).map (fun i => (i.zero, i.size, i.bytes)) = some (some (rwV rw0), 7, 40) := by kernel_rfl
/-- A row, by its entry in the map. -/
def decR (T : List (Rw × Nat)) : Value × Value → Rw
  | (_, .pointer (some a)) => ((T.find? fun r => r.2 == a.block).map (·.1)).getD default
  | _ => default
theorem find_blk {T : List (Rw × Nat)} (hn : (T.map (·.2)).Nodup) {r : Rw × Nat} (hr : r ∈ T) : T.find? (fun s => s.2 == r.2) = some r := by
  induction T with
  | nil => cases hr
  | cons a l ih =>
    rw [List.map_cons, List.nodup_cons] at hn
    rw [List.find?_cons]
    by_cases e : a.2 = r.2
    · rw [show (a.2 == r.2) = true from by simpa using e]
      rcases List.mem_cons.1 hr with rfl | hr
      · rfl
      · exact absurd (by rw [e]; exact List.mem_map_of_mem (f := (·.2)) hr) hn.1
    · rw [show (a.2 == r.2) = false from by simpa using e]
      rcases List.mem_cons.1 hr with rfl | hr
      · exact absurd rfl e
      · exact ih hn.2 hr
theorem decR_map {T D : List (Rw × Nat)} (hn : (T.map (·.2)).Nodup) (hD : ∀ r ∈ D, r ∈ T) : (rowsL D).map (decR T) = D.map (·.1) := by
  unfold rowsL
  rw [List.map_map]
  refine List.map_congr_left fun r hr => ?_
  show ((T.find? fun s => s.2 == r.2).map (·.1)).getD default = r.1
  rw [find_blk hn (hD r hr)]
  rfl
theorem PsAt.keyO {w : World} {x rb ob : Nat} {T : List (Rw × Nat)} (h : PsAt w x rb ob T) : KeyO (T.map (·.1)) := by
  have h1 := h.rows.nodup
  unfold rowsL at h1
  rw [List.pairwise_map] at h1
  unfold KeyO
  rw [List.pairwise_map]
  exact h1.imp fun h e => h (by obtain ⟨e1, e2, e3⟩ := e; simp [e1, e2, e3])

theorem own_base {w : World} {B B' e size n : Nat} {v : Value} {xs : List Value} (h : w.ownsRow B e size v n xs) (hb : B' ≤ B) : w.ownsRow B' e size v n xs := by
  refine ⟨h.1, ?_⟩
  rcases h.2 with hn | ⟨g, cap, cur, hv, hbg, rest⟩
  · exact .inl hn
  · exact .inr ⟨g, cap, cur, hv, Nat.le_trans hb hbg, rest⟩
/-- What List leaves. -/
def ListPost (R : List Rw) (w : World) (e : Ending) (w' : World) : Prop :=
  ∃ a c, e = .returned (.slice a R.length c) ∧ w'.ownsRow w.heap.size 42 7 (.slice a R.length c) R.length (wcl (srt R)) ∧ Upto NoS w w'

set_option maxRecDepth 100000 in
set_option maxHeartbeats 2000000 in
theorem List_any (w : World) (x rb ob : Nat) (T : List (Rw × Nat)) (h : PsAt w x rb ob T) (hT : T.length ≤ 1000000) :
    Calls Try.prog 21 #[.pointer (some ⟨x, 0, none⟩)] w (ListPost (T.map (·.1)) w) := by
  have hc := h.c0
  obtain ⟨o, hr, hR⟩ := h.rows.range Try.underlying65
  have HR := Lib.hid hR
  have HH := Lib.hid h
  have hml := h.rows.lt
  obtain ⟨i0, hi, hz0, hz1, hz2⟩ := info_parts Try.info42
  go_enter Try.func21, Try.ntmps21
  go_wp2_with (go_at_call 29; refine (none_no _ _ _ _ _ h).mono ?_; rintro e w' ⟨rfl, rfl⟩)
  go_loopw [3] (fun v wr => ∃ (D : List (Rw × Nat)) (a : Option Addr) (c : Nat), v = .slice a D.length c ∧ Hid (∀ r ∈ D, r ∈ T) ∧ Hid (wr.ownsRow (w.heap.size + 1) 42 7 (.slice a D.length c) D.length (wcl (D.map (·.1)))) ∧ Hid (RgAt Try.prog 72 wr rb w.heap.size (rowsL T) (rowsL D)) ∧ Hid (Upto NoS w wr)) (fun _ wr => wr.rangeLeft rb w.heap.size)
  case atStart => exact ⟨[], none, 0, rfl, Lib.hid (fun r hr => by simp at hr), Lib.hid ⟨by simp [wcl], .inl ⟨rfl, rfl⟩⟩, HR, Lib.hid ((Upto.refl _ _).alloc _)⟩
  case round =>
    obtain ⟨D, a, c, rfl, hD, hO, hRg, hU⟩ := hrel
    rcases hRg.out.next with ⟨hp, hrun⟩ | ⟨key, v, w1, hin, hrun, hent, hR1, hu1, hs1, hlt⟩
    · have hp := hp.map (decR T)
      rw [decR_map HH.out.nodup hD.out, decR_map HH.out.nodup (fun r hr => hr)] at hp
      have HP := Lib.hid hp
      have HLN : Hid (D.length = T.length) := Lib.hid (by have := hp.length_eq; simpa using this)
      have HK : Hid (KeyO (D.map (·.1))) := Lib.hid (by
        have := HH.out.keyO
        unfold KeyO at this ⊢
        refine this.perm hp.symm (fun {a b} h e => h ⟨e.1.symm, e.2.1.symm, e.2.2.symm⟩))
      have hso := sort_any wr (w.heap.size + 1) (.slice a D.length c) (D.map (·.1)) (by rw [List.length_map]; exact hO.out) (by rw [List.length_map, HLN.out]; exact hT) HK.out
      have HSO := Lib.hid hso
      have HSR : Hid (srt (D.map (·.1)) = srt (T.map (·.1))) := Lib.hid (srt_of HH.out.keyO ((srt_perm _).trans hp) (srt_sorted _))
      clear hp hso
      go_wp2_with (go_at_call 35; refine HSO.out.mono ?_; rintro e w3 ⟨rfl, ho3, hu3⟩)
      go_ret
      rw [HSR.out, List.length_map] at ho3
      have hUf : Upto NoS w w3 := hU.out.trans' hu3 (fun k hk e => by have := (hO.out.lt k e).1; omega)
      refine ⟨a, c, by rw [List.length_map, ← HLN.out]; rfl, ?_, hUf⟩
      rw [List.length_map, ← HLN.out]
      exact own_base ho3 (by omega)
    · obtain ⟨t, ht, he⟩ := List.mem_map.1 hin
      simp only [Prod.mk.injEq] at he
      obtain ⟨rfl, rfl⟩ := he
      have hs := hRg.out.left
      have hU1 : Upto NoS w w1 := hU.out.trans' hu1 (fun k hk e => by have e : k = w.heap.size := e; omega)
      have hw1 := hU.out.size
      have hw2 := HR.out.lt
      obtain ⟨d0, d1, d2, d3, d4, d5, d6⟩ := rw_cells ((HH.out.upto hU1).blk t ht)
      have hO1 := hu1.own hO.out (fun k hk e => by have := (hO.out.lt k hk).1; have e : k = w.heap.size := e; omega)
      have hO2 := hO1.alloc (.cells #[.int .u8 (t.1.p : Nat), .int .u32 (t.1.oa : Nat), .int .u16 (t.1.ob : Nat), .int .u32 (t.1.ia : Nat), .int .u16 (t.1.ib : Nat), .int .i64 (t.1.live : Nat), .int .i64 (t.1.held : Nat)] 42)
      have hlo : w.heap.size + 1 ≤ w1.heap.size := by have := hRg.out.lt; omega
      have hml2 : D.length < T.length := by simpa using hlt
      have HO2 := Lib.hid hO2
      have HU1 := Lib.hid hU1
      have HR1 := Lib.hid hR1
      have HLT := Lib.hid hlt
      have HS := Lib.hid hs
      clear hs hU1 hR1 hu1 hs1 hlt hO1 hO2 hin HR h
      go_wp2_with (at_builtin; refine wpList_append_lies _ rfl (.tmp 17) (.tmp 21) 54 rfl (w.heap.size + 1) 42 i0 _ 7 40 Try.underlying54 hi hz0 hz1 hz2 rfl (by omega) (.slice a D.length c) D.length (wcl (D.map (·.1))) (by rfl) HO2.out ⟨w1.heap.size, 0, none⟩ 1 1 (wcs t.1) (by rfl) (by rfl) (World.news_of_block (cs := #[.int .u8 (t.1.p : Nat), .int .u32 (t.1.oa : Nat), .int .u16 (t.1.ob : Nat), .int .u32 (t.1.ia : Nat), .int .u16 (t.1.ib : Nat), .int .i64 (t.1.live : Nat), .int .i64 (t.1.held : Nat)]) (t := 42) (fr := (0, 0)) (heap_alloc_new w1 _)) (wcs_one t.1) (by omega) (by unfold maxLen; omega) (by omega) (by simp; omega) (w1.heap.size + 1) (by simp) ?_; intro gg cap1 w5 hown1 hgrow hat hlt5)
      have hug := Upto.of_grown hgrow
      have hnr : ¬ (Value.slice a D.length c).ownBlock = some w.heap.size := fun e => by have := (HO2.out.lt _ e).1; omega
      have hnb : ¬ (Value.slice a D.length c).ownBlock = some rb := fun e => by have := (HO2.out.lt _ e).1; omega
      have hA : Upto NoS w1 (w1.alloc (.cells #[.int .u8 (t.1.p : Nat), .int .u32 (t.1.oa : Nat), .int .u16 (t.1.ob : Nat), .int .u32 (t.1.ia : Nat), .int .u16 (t.1.ib : Nat), .int .i64 (t.1.live : Nat), .int .i64 (t.1.held : Nat)] 42)) := (Upto.refl _ _).alloc _
      have hR5 := (HR1.out.upto hA id id).upto hug hnb hnr
      have hl5 := hR5.left
      go_roundw
      case rel =>
        refine ⟨D ++ [t], some ⟨gg, 0, none⟩, cap1, by simp, Lib.hid (fun r hr => ?_), Lib.hid ?_, Lib.hid ?_, Lib.hid ?_⟩
        · rcases List.mem_append.1 hr with hr | hr
          · exact hD.out r hr
          · simp at hr; subst hr; exact ht
        · rw [List.map_append, wcl_append, List.length_append]
          simpa [wcl] using hown1
        · rw [show rowsL (D ++ [t]) = rowsL D ++ [(kv t.1.p t.1.oa t.1.ob, .pointer (some ⟨t.2, 0, none⟩))] from by simp [rowsL]]
          exact hR5
        · exact (HU1.out.trans hA).trans' hug (fun k hk e => by have := (HO2.out.lt k e).1; omega)
      case measure =>
        rw [hl5, HS.out]
        have := HLT.out
        simp at this ⊢
        omega
end Go.Proofs.Ytfiblchdfacdiaa
