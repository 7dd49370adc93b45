/- What ports that are none answer; and PortsNone, walked. -/
import Derived.Test.YtfiblchdfacdiaaLet
namespace Go.Proofs.Ytfiblchdfacdiaa
open Go Go.RowKit Go.Deep Go.Maps

/-- The pointer leads to no ports: nil, or without maps. -/
def NP (w : World) (v : Option Addr) : Prop := v = none ∨ ∃ b, v = some ⟨b, 0, none⟩ ∧ w.cell? ⟨b, 0, none⟩ = some (.map none)
theorem NP.upto {w w' : World} {v : Option Addr} (h : NP w v) (hu : Upto NoS w w') : NP w' v := by
  rcases h with h | ⟨b, hv, hc⟩
  · exact .inl h
  · exact .inr ⟨b, hv, hu.keep hc id⟩
theorem NP.alloc {w : World} {v : Option Addr} (h : NP w v) (o : Obj) : NP (w.alloc o) v := h.upto ((Upto.refl _ _).alloc o)
theorem none_np (w : World) (v : Option Addr) (h : NP w v) : Calls Try.prog 29 #[.pointer v] w fun e w' => e = .returned (.bool true) ∧ w = w' := by
  rcases h with rfl | ⟨b, rfl, hc⟩
  · exact none_nil w
  · exact none_zero w b hc
variable (w : World) (v : Option Addr)
theorem Count_np (h : NP w v) : Calls Try.prog 28 #[.pointer v] w (Told (.int .i64 0) w) := by
  go_enter Try.func28, Try.ntmps28
  go_wp2_with (go_at_call 29; refine (none_np _ _ h).mono ?_; rintro e w' ⟨rfl, rfl⟩)
  go_ret
  exact ⟨rfl, Upto.refl _ _⟩
theorem List_np (h : NP w v) : Calls Try.prog 21 #[.pointer v] w (Told (.slice none 0 0) w) := by
  go_enter Try.func21, Try.ntmps21
  go_wp2_with (go_at_call 29; refine (none_np _ _ h).mono ?_; rintro e w' ⟨rfl, rfl⟩)
  go_ret
  exact ⟨rfl, Upto.refl _ _⟩
theorem Copy_np (h : NP w v) : Calls Try.prog 22 #[.pointer v] w (Told (.pointer none) w) := by
  go_enter Try.func22, Try.ntmps22
  go_wp2_with (go_at_call 29; refine (none_np _ _ h).mono ?_; rintro e w' ⟨rfl, rfl⟩)
  go_ret
  exact ⟨rfl, Upto.refl _ _⟩
theorem Row_np (p a b : Int) (h : NP w v) : Calls Try.prog 33 #[.pointer v, .int .u8 p, vEp a b] w (Told (.tuple #[.pointer none, .int .i64 1]) w) := by
  have h1 := h.alloc (.cells #[.int .u32 a, .int .u16 b] 26)
  go_enter Try.func33, Try.ntmps33
  go_wp2_with (go_at_call 29; refine (none_np _ _ h1).mono ?_; rintro e w' ⟨rfl, rfl⟩)
  go_ret2
  exact ⟨rfl, (Upto.refl _ _).alloc _⟩
theorem Confirm_np (p a b : Int) (h : NP w v) : Calls Try.prog 18 #[.pointer v, .int .u8 p, vEp a b] w (Told (.int .i64 1) w) := by
  have h1 := h.alloc (.cells #[.int .u32 a, .int .u16 b] 26)
  have hu0 := (Upto.refl NoS w).alloc (.cells #[.int .u32 a, .int .u16 b] 26)
  go_enter Try.func18, Try.ntmps18
  go_wp2_with (go_at_call 33; refine (Row_np _ _ p a b h1).mono ?_; rintro e w1 ⟨rfl, hu⟩)
  go_ret
  exact ⟨rfl, hu0.trans hu⟩
theorem Drop_np (p a b : Int) (h : NP w v) : Calls Try.prog 19 #[.pointer v, .int .u8 p, vEp a b] w (Told (.int .i64 1) w) := by
  have h1 := h.alloc (.cells #[.int .u32 a, .int .u16 b] 26)
  have hu0 := (Upto.refl NoS w).alloc (.cells #[.int .u32 a, .int .u16 b] 26)
  go_enter Try.func19, Try.ntmps19
  go_wp2_with (go_at_call 33; refine (Row_np _ _ p a b h1).mono ?_; rintro e w1 ⟨rfl, hu⟩)
  go_ret
  exact ⟨rfl, hu0.trans hu⟩
theorem Release_np (p a b : Int) (h : NP w v) : Calls Try.prog 20 #[.pointer v, .int .u8 p, vEp a b] w (Told (.int .i64 1) w) := by
  have h1 := h.alloc (.cells #[.int .u32 a, .int .u16 b] 26)
  have hu0 := (Upto.refl NoS w).alloc (.cells #[.int .u32 a, .int .u16 b] 26)
  go_enter Try.func20, Try.ntmps20
  go_wp2_with (go_at_call 33; refine (Row_np _ _ p a b h1).mono ?_; rintro e w1 ⟨rfl, hu⟩)
  go_ret
  exact ⟨rfl, hu0.trans hu⟩
theorem Fix_np (p a b c d : Int) (h : NP w v) : Calls Try.prog 13 #[.pointer v, .int .u8 p, vEp a b, vEp c d] w (Told (.int .i64 1) w) := by
  have h1 := (h.alloc (.cells #[.int .u32 a, .int .u16 b] 26)).alloc (.cells #[.int .u32 c, .int .u16 d] 26)
  go_enter Try.func13, Try.ntmps13
  go_wp2_with (go_at_call 29; refine (none_np _ _ h1).mono ?_; rintro e w' ⟨rfl, rfl⟩)
  go_ret
  exact ⟨rfl, ((Upto.refl _ _).alloc _).alloc _⟩
theorem Of_np (p a b : Int) (h : NP w v) : Calls Try.prog 25 #[.pointer v, .int .u8 p, vEp a b] w (Told (.tuple #[rwV rw0, .bool false]) w) := by
  have h1 := (h.alloc (.cells #[.int .u32 a, .int .u16 b] 26)).alloc (.cells zrw 42)
  have hn := new_rw (w.alloc (.cells #[.int .u32 a, .int .u16 b] 26))
  rw [World.size_alloc] at hn
  go_enter Try.func25, Try.ntmps25
  go_wp2_with (go_at_call 29; refine (none_np _ _ h1).mono ?_; rintro e w' ⟨rfl, rfl⟩)
  exact bodyPost_ret (res_rw Try.results25 _ rfl hn) rfl ⟨rfl, ((Upto.refl _ _).alloc _).alloc _⟩
theorem Owner_np (p a b : Int) (h : NP w v) : Calls Try.prog 15 #[.pointer v, .int .u8 p, vEp a b] w (Told (.tuple #[rwV rw0, .bool false]) w) := by
  have h1 := (h.alloc (.cells #[.int .u32 a, .int .u16 b] 26)).alloc (.cells zrw 42)
  have hu0 := ((Upto.refl NoS w).alloc (.cells #[.int .u32 a, .int .u16 b] 26)).alloc (.cells zrw 42)
  have hn := new_rw (w.alloc (.cells #[.int .u32 a, .int .u16 b] 26))
  rw [World.size_alloc] at hn
  go_enter Try.func15, Try.ntmps15
  go_wp2_with (go_at_call 33; refine (Row_np _ _ p a b h1).mono ?_; rintro e w1 ⟨rfl, hu⟩; have hN := hu.row hn (fun h => h.elim); obtain ⟨e0, e1, e2, e3, e4, e5, e6⟩ := rw_cells hN; have f0 := hN.frozen 0; have f1 := hN.frozen 1; have f2 := hN.frozen 2; have f3 := hN.frozen 3; have f4 := hN.frozen 4; have f5 := hN.frozen 5; have f6 := hN.frozen 6)
  have hs : set7 w1 (w.heap.size + 1) rw0 = ((((((w1.setCell ⟨w.heap.size + 1, 0, none⟩ (.int .u8 0)).setCell ⟨w.heap.size + 1, 1, none⟩ (.int .u32 0)).setCell ⟨w.heap.size + 1, 2, none⟩ (.int .u16 0)).setCell ⟨w.heap.size + 1, 3, none⟩ (.int .u32 0)).setCell ⟨w.heap.size + 1, 4, none⟩ (.int .u16 0)).setCell ⟨w.heap.size + 1, 5, none⟩ (.int .i64 0)).setCell ⟨w.heap.size + 1, 6, none⟩ (.int .i64 0) := rfl
  rw [← hs]
  refine bodyPost_ret (res_rw Try.results15 _ rfl (set7_row hN rw0)) rfl ⟨rfl, ?_⟩
  exact set7_upto (hu0.trans hu) (fun h => by omega) _
theorem Take_np (a b c d e f g : Int) (h : NP w v) : Calls Try.prog 14 #[.pointer v, vWish a b c d e f g] w (Told (.tuple #[ev 0 0, .int .i64 1]) w) := by
  have h1 := (((h.alloc (.cells #[.pointer v] 31)).alloc (.cells #[.int .u8 a, .int .u32 b, .int .u16 c, .int .u32 d, .int .u16 e, .int .u16 f, .int .u16 g] 28)).alloc (.cells #[.int .u32 0, .int .u16 0] 26)).alloc (.cells #[.int .i64 0] 37)
  have hr := (row_ep ((w.alloc (.cells #[.pointer v] 31)).alloc (.cells #[.int .u8 a, .int .u32 b, .int .u16 c, .int .u32 d, .int .u16 e, .int .u16 f, .int .u16 g] 28)) 0 0).alloc (.cells #[.int .i64 1] 37)
  have e2 := new_1 (((w.alloc (.cells #[.pointer v] 31)).alloc (.cells #[.int .u8 a, .int .u32 b, .int .u16 c, .int .u32 d, .int .u16 e, .int .u16 f, .int .u16 g] 28)).alloc (.cells #[.int .u32 0, .int .u16 0] 26)) #[.int .i64 1] 37 0 _ rfl
  simp only [World.size_alloc] at hr e2
  obtain ⟨e0, e1⟩ := ep2 hr
  go_enter Try.func14, Try.ntmps14
  go_wp2_with (go_at_call 29; refine (none_np _ _ h1).mono ?_; rintro e w' ⟨rfl, rfl⟩)
  exact bodyPost_ret (res_ee (a := 0) (b := 0) Try.results14 _ rfl rfl e0 e1 e2) rfl ⟨rfl, (((Upto.refl _ _).alloc _).alloc _).alloc _ |>.alloc _⟩
end Go.Proofs.Ytfiblchdfacdiaa
