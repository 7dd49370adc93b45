/- A wheel's Next and New, walked. -/
import Derived.Test.YtgoaokgoenihlaaMapRange
import Derived.Test.YtgoaokgoenihlaaAt
namespace Go.Proofs.Ytgoaokgoenihlaa
open Go Go.RowKit Go.Deep Go.Maps

def dec : Value × Value → Tm
  | (.agg a, .agg b) => match a.toList, b.toList with
    | [.int _ s, .int _ g], [.int _ d, _] => ⟨d.toNat, ⟨s, g.toNat⟩⟩
    | _, _ => ⟨0, ⟨0, 0⟩⟩
  | _ => ⟨0, ⟨0, 0⟩⟩
theorem dec_ent (n last : Nat) (t : Tm) : dec (ent n last t) = t := by simp [dec, ent]
theorem dec_map (n last : Nat) (L : List Tm) : (L.map (ent n last)).map dec = L := by
  rw [List.map_map]
  conv => rhs; rw [← List.map_id L]
  exact List.map_congr_left fun t _ => dec_ent n last t
def nx (D : List Tm) : Nat := (minD D).getD 0
def okB (D : List Tm) : Bool := (minD D).isSome
/-- What Next tells. -/
def nextV (D : List Tm) : Value := .tuple #[.int .i64 (nx D : Nat), .bool (okB D)]
theorem nx_nil : nx [] = 0 ∧ okB [] = false := ⟨rfl, rfl⟩
theorem nx_one (t : Tm) : nx ([] ++ [t]) = t.d ∧ okB ([] ++ [t]) = true := ⟨rfl, rfl⟩
theorem ok_cons {D : List Tm} (h : D ≠ []) : okB D = true := by
  cases D with
  | nil => exact (h rfl).elim
  | cons a l => rfl
theorem nx_snoc {D : List Tm} (h : D ≠ []) (t : Tm) : nx (D ++ [t]) = (if t.d < nx D then t.d else nx D) ∧ okB (D ++ [t]) = true := by
  have e := minD_snoc D t
  have h1 : (minD D) = some (nx D) := by
    cases D with
    | nil => exact (h rfl).elim
    | cons a l => rfl
  rw [h1] at e
  unfold okB
  refine ⟨?_, by rw [e]; rfl⟩
  unfold nx at e ⊢
  rw [e]
  simp only [Option.getD_some]
  split <;> omega
theorem nx_perm {D E : List Tm} (h : D.Perm E) : nx D = nx E ∧ okB D = okB E := by
  unfold nx okB; rw [minD_perm h]; exact ⟨rfl, rfl⟩

set_option maxRecDepth 100000 in
set_option maxHeartbeats 2000000 in
theorem Next_any (w : World) (x g m : Nat) (vs : Nat → Value) (S : Wh) (h : WhIn w x g m vs S) :
    Calls Try.prog 11 #[.pointer (some ⟨x, 0, none⟩)] w (Told (nextV S.E) w) := by
  have hc := h.c1
  obtain ⟨o, hr, hR⟩ := h.mid.mp.range Try.underlying59
  have HR := Lib.hid hR
  have hml := h.mid.mp.lt
  have HE := Lib.hid h.ok.each
  go_enter Try.func11, Try.ntmps11
  go_wp2_with (go_at_call 25; refine (none_no _ _ _ _ _ _ h).mono ?_; rintro e w' ⟨rfl, rfl⟩)
  go_loopw [2, 3] (fun v u wr => ∃ D : List Tm, v = .int .i64 (nx D : Nat) ∧ u = .bool (okB D) ∧ Hid (RgAt Try.prog 31 wr m w.heap.size (S.E.map (ent S.n S.last)) (D.map (ent S.n S.last))) ∧ Hid (Upto NoS w wr)) (fun _ _ wr => wr.rangeLeft m w.heap.size)
  case atStart => exact ⟨[], rfl, rfl, HR, Lib.hid ((Upto.refl _ _).alloc _)⟩
  case round =>
    obtain ⟨D, rfl, rfl, hRg, hU⟩ := hrel
    rcases hRg.out.next with ⟨hp, hrun⟩ | ⟨key, v, w1, hin, hrun, hent, hR1, hu1, hs1, hlt⟩
    · have hD := hp.map dec
      rw [dec_map, dec_map] at hD
      have HD := Lib.hid (nx_perm hD)
      clear hp hD
      go_wp2
      go_ret2
      refine ⟨?_, hU.out⟩
      unfold nextV
      rw [HD.out.1, HD.out.2]
      rfl
    · obtain ⟨t, ht, he⟩ := List.mem_map.1 hin
      simp only [ent, Prod.mk.injEq] at he
      obtain ⟨rfl, rfl⟩ := he
      have hs := hRg.out.left
      have hs1' := hR1.left
      have htd := (HE.out t ht).1
      have hU1 : Upto NoS w w1 := hU.out.trans' hu1 (fun k hk e => by have e : k = w.heap.size := e; omega)
      have hRA := (hR1.upto ((Upto.refl NoS w1).alloc (.cells #[.int .i64 (t.d : Nat), .int .i64 (plc S.n S.last t.d : Nat)] 65)) id id)
      have hsA := hRA.left
      have HM : Hid ((w1.alloc (.cells #[.int .i64 (t.d : Nat), .int .i64 (plc S.n S.last t.d : Nat)] 65)).rangeLeft m w.heap.size < wr.rangeLeft m w.heap.size) := Lib.hid (by rw [hs, hsA]; simp at hlt ⊢; omega)
      have HRA : Hid (RgAt Try.prog 31 (w1.alloc (.cells #[.int .i64 (t.d : Nat), .int .i64 (plc S.n S.last t.d : Nat)] 65)) m w.heap.size (S.E.map (ent S.n S.last)) ((D ++ [t]).map (ent S.n S.last))) := Lib.hid (by rw [List.map_append]; exact hRA)
      have HU1 := Lib.hid (hU1.alloc (.cells #[.int .i64 (t.d : Nat), .int .i64 (plc S.n S.last t.d : Nat)] 65))
      have z0 := new_1 w1 #[.int .i64 (t.d : Nat), .int .i64 (plc S.n S.last t.d : Nat)] 65 0 (.int .i64 (t.d : Nat)) rfl
      clear hs hs1' hU1 hRA hsA hR1 hu1 hs1 hlt hin ht hRg hU HE
      by_cases hD : D = []
      · subst hD
        have hb := nx_nil.2
        have HN := Lib.hid (nx_one t)
        go_wp2
        go_roundw
        case rel => exact ⟨[] ++ [t], by rw [HN.out.1], by rw [HN.out.2], HRA, HU1⟩
        case measure => exact HM.out
      · have hb := ok_cons hD
        have HN := Lib.hid (nx_snoc hD t)
        by_cases hlt : t.d < nx D
        · have hlt' : ((t.d : Nat) : Int) < ((nx D : Nat) : Int) := by omega
          have HL := Lib.hid hlt
          go_wp2
          go_roundw
          case rel => exact ⟨D ++ [t], by rw [HN.out.1, if_pos HL.out], by rw [HN.out.2], HRA, HU1⟩
          case measure => exact HM.out
        · have hlt' : ¬ ((t.d : Nat) : Int) < ((nx D : Nat) : Int) := by omega
          have HL := Lib.hid hlt
          go_wp2
          go_roundw
          case rel => exact ⟨D ++ [t], by rw [HN.out.1, if_neg HL.out], by rw [HN.out.2, hb], HRA, HU1⟩
          case measure => exact HM.out

theorem New_err (w : World) (n : Int) (h : n < 1 ∨ 64 < n) :
    Calls Try.prog 8 #[.int .i64 n] w fun e w' => e = .returned (.tuple #[.pointer none, .int .i64 2]) ∧ w = w' := by
  rcases h with h | h
  · go_enter Try.func8, Try.ntmps8
    go_wp2
    go_ret2
    exact ⟨rfl, rfl⟩
  · have h1 : ¬ n < 1 := by omega
    go_enter Try.func8, Try.ntmps8
    go_wp2
    go_ret2
    exact ⟨rfl, rfl⟩
/-- A wheel that is new. -/
def fresh (n : Nat) : Wh := ⟨n, 0, []⟩
theorem fresh_ok {n : Nat} (h1 : 1 ≤ n) (h2 : n ≤ 64) : (fresh n).Ok := ⟨h1, h2, by show 0 ≤ _; omega, fun t ht => by simp [fresh] at ht, by simp [fresh], by simp [fresh]⟩
/-- What New leaves. -/
def NewPost (n : Nat) (w : World) (e : Ending) (w' : World) : Prop :=
  ∃ x O, e = .returned (.tuple #[.pointer (some ⟨x, 0, none⟩), .int .i64 0]) ∧ WhAt w' x O (fresh n) ∧ Upto NoS w w' ∧ ∀ k, O k → w.heap.size ≤ k
theorem Try.info67 : (Try.prog.info? 67).map (fun i => (i.zero, i.size, i.bytes)) = some (some (.slice none 0 0), 1, 24) := by kernel_rfl
set_option maxRecDepth 100000 in
theorem New_ok (w : World) (n : Nat) (h1 : 1 ≤ n) (h2 : n ≤ 64) : Calls Try.prog 8 #[.int .i64 (n : Nat)] w (NewPost n w) := by
  have hmm := @run_makeMap Try.prog
  obtain ⟨W, hW⟩ : ∃ W, W = ((w.alloc (.cells (madeCells #[.slice none 0 0] n) 67)).alloc (.map #[] 0)).alloc (.cells #[.slice (some ⟨w.heap.size, 0, none⟩) n n, .map (some (w.heap.size + 1)), .int .i64 0] 61) := ⟨_, rfl⟩
  have hm := run_make_row' (P := Try.prog) 58 67 (.slice none 0 0) 24 Try.underlying58 Try.info67 rfl .i64 .i64 n (by omega) (by omega) w
  have hU : Upto NoS w W := by rw [hW]; exact (((Upto.refl NoS w).alloc _).alloc _).alloc _
  have hpl : W.rowIs w.heap.size 67 n (fun _ => .slice none 0 0) := by
    rw [hW]
    exact ((World.rowIs_made w (.slice none 0 0) n 67).alloc _).alloc _
  have hmp : MapAt Try.prog 31 W (w.heap.size + 1) [] := by
    rw [hW]
    have := (MapAt.made Try.prog 31 (w.alloc (.cells (madeCells #[.slice none 0 0] n) 67))).alloc (.cells #[.slice (some ⟨w.heap.size, 0, none⟩) n n, .map (some (w.heap.size + 1)), .int .i64 0] 61)
    rw [World.size_alloc] at this
    exact this
  have hrow : W.rowIs (w.heap.size + 2) 61 3 (whF w.heap.size (w.heap.size + 1) n 0) := by
    rw [hW]
    have := World.rowIs_alloc ((w.alloc (.cells (madeCells #[.slice none 0 0] n) 67)).alloc (.map #[] 0)) #[.slice (some ⟨w.heap.size, 0, none⟩) n n, .map (some (w.heap.size + 1)), .int .i64 0] 61 (whF w.heap.size (w.heap.size + 1) n 0) (fun i hi => by
      have : i < 3 := hi
      match i, this with
      | 0, _ => rfl | 1, _ => rfl | 2, _ => rfl)
    rw [World.size_alloc, World.size_alloc] at this
    exact this
  have hat : (fresh n).at = fun _ => [] := rfl
  have hS : WhIn W (w.heap.size + 2) w.heap.size (w.heap.size + 1) (fun _ => .slice none 0 0) (fresh n) := by
    refine ⟨⟨hrow, hpl, fun k _ => ⟨rfl, .inl ⟨rfl, rfl⟩⟩, fun i j _ _ _ b hb => by simp [Value.ownBlock] at hb, hmp, by omega, by omega⟩, fresh_ok h1 h2⟩
  have hO : ∀ k, WhS (w.heap.size + 2) w.heap.size (w.heap.size + 1) (fun _ => .slice none 0 0) n k → w.heap.size ≤ k := by
    rintro k (h | h | h | ⟨i, _, h⟩)
    · omega
    · omega
    · omega
    · simp [Value.ownBlock] at h
  have HS := Lib.hid hS
  have HU := Lib.hid hU
  have HO := Lib.hid hO
  clear hat hS hU hO hpl hmp hrow
  go_enter Try.func8, Try.ntmps8
  go_wp2
  go_ret2
  rw [← hW]
  exact ⟨_, _, rfl, ⟨_, _, _, HS.out, fun k hk => hk, fun k hk => HS.out.mid.slt hk⟩, HU.out, fun k hk => HO.out k hk⟩
end Go.Proofs.Ytgoaokgoenihlaa
