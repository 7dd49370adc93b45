/- Cut's and take's closures, walked. -/
import Derived.Test.YtgoaokgoenihlaaTold
import Derived.Test.YtgoaokgoenihlaaInfo
import Derived.Test.YtgoaokgoenihlaaWalkB
import Derived.Laws.StructEq
namespace Go.Proofs.Ytgoaokgoenihlaa
open Go Go.RowKit Go.Deep Go.Maps

theorem eq31 (w : World) (a b : Hn) : (binOp .eql 31 (hv a) (hv b)).run Try.prog w = .ok (.bool (a == b)) w := by
  have u3 := Try.underlying3
  have u29 := Try.underlying29
  have a3 := Try.isAgg3
  have z3 := Try.sizeOf3
  have a29 := Try.isAgg29
  have z29 := Try.sizeOf29
  have hS : Try.prog.underlying 31 = some (.struct (Try.prog.fieldsOf 31)) := by kernel_rfl
  have hp : Try.prog.stoodInHeld 31 = false := by kernel_rfl
  rw [run_eql_struct, show (10000 : Nat) = 9999 + 1 from rfl, run_equalIn_agg w 9999 31 _ _ hS hp]
  simp only [Program.fieldsOf, Try.underlying31]
  go_simp
  obtain ⟨s, g⟩ := a
  obtain ⟨s', g'⟩ := b
  have e : ((⟨s, g⟩ : Hn) == ⟨s', g'⟩) = (s == s' && (g : Int) == (g' : Int)) := by
    rw [Bool.eq_iff_iff]; simp; omega
  rw [e]
  by_cases h1 : s = s' <;> by_cases h2 : (g : Int) = g' <;> simp [h1, h2]
theorem guard31 (w : World) (x y : Operand) (a b : Hn) : (eqGuard .eql 31 x y (hv a) (hv b)).run Try.prog w = .ok () w := run_eqGuard_agg w .eql 31 x y _ _ (by kernel_rfl)

/-- What Cut's closure keeps: its captured handle. -/
def CutI (bx : Nat) (a : Hn) (_ : List Tm) (F : Nat → Prop) (w : World) : Prop :=
  F = NoS ∧ w.cell? ⟨bx, 0, none⟩ = some (.int .i64 a.s) ∧ w.cell? ⟨bx, 1, none⟩ = some (.int .u32 (a.g : Nat))
theorem cutKeeps (bx : Nat) (a : Hn) (q B0 : Nat) (h : q ≠ bx) : Keeps (CutI bx a) q B0 where
  foot := fun T F w k ⟨hF, _⟩ hk => by subst hF; exact hk.elim
  keep := fun T F w w' ⟨hF, h1, h2⟩ hu => ⟨hF, hu.keep h1 (fun e => h (by exact e.symm)), hu.keep h2 (fun e => h (by exact e.symm))⟩
theorem cutKeeps0 (bx : Nat) (a : Hn) : ∀ T F w w', CutI bx a T F w → Upto NoS w w' → CutI bx a T F w' :=
  fun _ _ _ _ ⟨hF, h1, h2⟩ hu => ⟨hF, hu.keep h1 id, hu.keep h2 id⟩
set_option maxRecDepth 100000 in
theorem closure30 (bx : Nat) (a : Hn) (T : List Tm) (F : Nat → Prop) (w : World) (t : Tm) (h : CutI bx a T F w) :
    Calls Try.prog 30 #[tmv t, .pointer (some ⟨bx, 0, none⟩)] w (CloPost (CutI bx a) T F (t.h == a) w) := by
  obtain ⟨rfl, h1, h2⟩ := h
  have hI : CutI bx a T NoS w := ⟨rfl, h1, h2⟩
  have n0 := new_1 w #[.int .i64 (t.d : Nat), .int .i64 t.h.s, .int .u32 (t.h.g : Nat)] 69 1 (.int .i64 t.h.s) rfl
  have n1 := new_1 w #[.int .i64 (t.d : Nat), .int .i64 t.h.s, .int .u32 (t.h.g : Nat)] 69 2 (.int .u32 (t.h.g : Nat)) rfl
  have k1 := keep_alloc h1 (.cells #[.int .i64 (t.d : Nat), .int .i64 t.h.s, .int .u32 (t.h.g : Nat)] 69)
  have k2 := keep_alloc h2 (.cells #[.int .i64 (t.d : Nat), .int .i64 t.h.s, .int .u32 (t.h.g : Nat)] 69)
  have hU : Upto NoS w _ := (Upto.refl NoS w).alloc (.cells #[.int .i64 (t.d : Nat), .int .i64 t.h.s, .int .u32 (t.h.g : Nat)] 69)
  have hI' := cutKeeps0 bx a _ _ _ _ hI hU
  have HI := Lib.hid hI'
  have HU := Lib.hid hU
  have he := fun w' => eq31 w' t.h a
  have hg := fun w' x y => guard31 w' x y t.h a
  clear hI hI' hU h1 h2
  generalize (t.h == a) = r at he ⊢
  go_enter Try.func30, Try.ntmps30
  go_wp2_with fail
  go_ret
  exact ⟨rfl, NoS, HI.out, HU.out, fun k hk => hk.elim⟩

/-- What take's closure keeps: now, and what it has taken. -/
def TakeI (B bx cx now : Nat) (T : List Tm) (F : Nat → Prop) (w : World) : Prop :=
  ∃ v, w.cell? ⟨bx, 0, none⟩ = some (.int .i64 (now : Nat)) ∧ w.rowIs cx 67 1 (fun _ => v) ∧ w.ownsRow B 69 3 v T.length (tcl T) ∧ bx ≠ cx ∧ cx < B ∧ bx < B ∧ B ≤ w.heap.size ∧ (T = [] → v = .slice none 0 0) ∧ F = fun k => k = cx ∨ v.ownBlock = some k
theorem takeKeeps (B bx cx now q B0 : Nat) (h : q ≠ bx) (h' : q ≠ cx) (hq : q < B) (hB : B0 ≤ cx) : Keeps (TakeI B bx cx now) q B0 where
  foot := fun T F w k ⟨v, h1, h2, h3, h4, h5, h6, h7, h8, hF⟩ hk => by
    subst hF
    rcases hk with rfl | hk
    · exact ⟨h2.lt, hB⟩
    · have := h3.lt k hk; omega
  keep := fun T F w w' ⟨v, h1, h2, h3, h4, h5, h6, h7, h8, hF⟩ hu =>
    ⟨v, hu.keep h1 (fun e => h (by exact e.symm)), hu.row h2 (fun e => h' (by exact e.symm)), hu.own h3 (fun k hk e => by have := h3.lt k hk; have e : k = q := e; omega), h4, h5, h6, Nat.le_trans h7 hu.size, h8, hF⟩
theorem takeKeeps0 (B bx cx now : Nat) : ∀ T F w w', TakeI B bx cx now T F w → Upto NoS w w' → TakeI B bx cx now T F w' :=
  fun _ _ _ _ ⟨v, h1, h2, h3, h4, h5, h6, h7, h8, hF⟩ hu => ⟨v, hu.keep h1 id, hu.row h2 id, hu.own h3 (fun _ _ => id), h4, h5, h6, Nat.le_trans h7 hu.size, h8, hF⟩
set_option maxRecDepth 100000 in
set_option maxHeartbeats 1000000 in
theorem closure33 (B bx cx now : Nat) (T : List Tm) (F : Nat → Prop) (w : World) (t : Tm) (h : TakeI B bx cx now T F w) (hT : T.length ≤ 1000000) :
    Calls Try.prog 33 #[tmv t, .pointer (some ⟨bx, 0, none⟩), .pointer (some ⟨cx, 0, none⟩)] w (CloPost (TakeI B bx cx now) (if decide (t.d ≤ now) then T ++ [t] else T) F (decide (t.d ≤ now)) w) := by
  obtain ⟨v, h1, h2, h3, h4, h5, h6, hB, h8, rfl⟩ := h
  have hI : TakeI B bx cx now T (fun k => k = cx ∨ v.ownBlock = some k) w := ⟨v, h1, h2, h3, h4, h5, h6, hB, h8, rfl⟩
  have n0 := new_1 w #[.int .i64 (t.d : Nat), .int .i64 t.h.s, .int .u32 (t.h.g : Nat)] 69 0 (.int .i64 (t.d : Nat)) rfl
  have n1 := new_1 w #[.int .i64 (t.d : Nat), .int .i64 t.h.s, .int .u32 (t.h.g : Nat)] 69 1 (.int .i64 t.h.s) rfl
  have n2 := new_1 w #[.int .i64 (t.d : Nat), .int .i64 t.h.s, .int .u32 (t.h.g : Nat)] 69 2 (.int .u32 (t.h.g : Nat)) rfl
  have k1 := keep_alloc h1 (.cells #[.int .i64 (t.d : Nat), .int .i64 t.h.s, .int .u32 (t.h.g : Nat)] 69)
  have hu0 : Upto NoS w _ := (Upto.refl NoS w).alloc (.cells #[.int .i64 (t.d : Nat), .int .i64 t.h.s, .int .u32 (t.h.g : Nat)] 69)
  by_cases hd : t.d ≤ now
  · rw [if_pos (by simpa using hd), show decide (t.d ≤ now) = true from by simpa using hd]
    have hd' : ¬ (now : Int) < (t.d : Int) := by omega
    obtain ⟨ad, cp, rfl, _⟩ := own_slice h3
    obtain ⟨i0, hi, hz0, hz1, hz2⟩ := info_parts Try.info69
    have c0 := keep_alloc (h2.cell (i := 0) (by omega)) (.cells #[.int .i64 (t.d : Nat), .int .i64 t.h.s, .int .u32 (t.h.g : Nat)] 69)
    have hown := (h3.alloc (.cells #[.int .i64 (t.d : Nat), .int .i64 t.h.s, .int .u32 (t.h.g : Nat)] 69)).alloc (.cells #[.int .i64 (t.d : Nat), .int .i64 t.h.s, .int .u32 (t.h.g : Nat)] 69)
    have hrow := (h2.alloc (.cells #[.int .i64 (t.d : Nat), .int .i64 t.h.s, .int .u32 (t.h.g : Nat)] 69)).alloc (.cells #[.int .i64 (t.d : Nat), .int .i64 t.h.s, .int .u32 (t.h.g : Nat)] 69)
    have hcl := h2.lt
    have c00 := keep_alloc c0 (.cells #[.int .i64 (t.d : Nat), .int .i64 t.h.s, .int .u32 (t.h.g : Nat)] 69)
    have nx : ¬ (Value.slice ad T.length cp).ownBlock = some cx := fun e => by have := (h3.lt cx e).1; omega
    have nb : ¬ (Value.slice ad T.length cp).ownBlock = some bx := fun e => by have := (h3.lt bx e).1; omega
    have fz := hrow.frozen 0
    have HR := Lib.hid hrow
    have H1 := Lib.hid h1
    have H3 := Lib.hid h3
    have hu1 : Upto NoS w _ := hu0.alloc (.cells #[.int .i64 (t.d : Nat), .int .i64 t.h.s, .int .u32 (t.h.g : Nat)] 69)
    have HU := Lib.hid hu1
    have HD := Lib.hid hd
    clear hI h1 h2 h3 hu0 hrow hd hu1
    go_enter Try.func33, Try.ntmps33
    go_wp2_with (at_builtin; refine wpList_append_lies _ rfl (.tmp 9) (.tmp 11) 67 rfl B 69 i0 _ 3 24 Try.underlying67 hi hz0 hz1 hz2 rfl (by omega) (.slice ad T.length cp) T.length (tcl T) (by rfl) hown ⟨w.heap.size + 1, 0, none⟩ 1 1 (tcs t) (by rfl) (by rfl) (World.news_of_block (cs := #[.int .i64 (t.d : Nat), .int .i64 t.h.s, .int .u32 (t.h.g : Nat)]) (t := 69) (fr := (0, 0)) (by have := heap_alloc_new (w.alloc (.cells #[.int .i64 (t.d : Nat), .int .i64 t.h.s, .int .u32 (t.h.g : Nat)] 69)) (.cells #[.int .i64 (t.d : Nat), .int .i64 t.h.s, .int .u32 (t.h.g : Nat)] 69); simpa using this)) (tcs_one t) (by omega) (by unfold maxLen; omega) (by omega) (by simp; omega) (w.heap.size + 1 + 1) (by simp) ?_; intro gg cap1 w5 hown1 hgrow hat hlt; have zc := (Upto.of_grown hgrow).keep c00 nx; have zf := ((Upto.of_grown hgrow).frozen (p := ⟨cx, 0, none⟩) (by simp; omega) nx).trans fz)
    go_ret
    have hug := Upto.of_grown hgrow
    have hR5 := (hug.row HR.out nx).set 0 (.slice (some ⟨gg, 0, none⟩) (T.length + 1) cap1)
    have hgg : ∀ k, (Value.slice (some ⟨gg, 0, none⟩) (T.length + 1) cap1).ownBlock = some k → (Value.slice ad T.length cp).ownBlock = some k ∨ w.heap.size ≤ k := fun k hk => by
      have hk' : gg = k := by simpa [Value.ownBlock] using hk
      subst hk'
      rcases hat with e | e
      · exact .inl e
      · right; omega
    have hgc : ¬ gg = cx := fun e => by
      rcases hat with e' | e'
      · exact nx (e ▸ e')
      · omega
    have U1 : Upto (fun k => k = cx ∨ (Value.slice ad T.length cp).ownBlock = some k) w w5 := (HU.out.mono (fun _ _ h => h.elim)).trans' hug (fun _ _ h => .inr h)
    have U2 := U1.setB (b := cx) (o := 0) (.inl rfl) (.slice (some ⟨gg, 0, none⟩) (T.length + 1) cap1)
    refine ⟨rfl, fun k => k = cx ∨ (Value.slice (some ⟨gg, 0, none⟩) (T.length + 1) cap1).ownBlock = some k, ⟨.slice (some ⟨gg, 0, none⟩) (T.length + 1) cap1, ?_, hR5.congr (fun i hi => if_pos (by omega)), ?_, h4, h5, h6, Nat.le_trans hB U2.size, (fun e => by simp at e), ?_⟩, U2, fun k hk => ?_⟩
    · exact U2.keep H1.out (fun e => Or.elim e (fun e => h4 e) (fun e => nb e))
    · have e1 : (T ++ [t]).length = T.length + 1 := by simp
      rw [e1, tcl_append, tcl_one]
      exact ((Upto.refl (fun k => k = cx) _).setB rfl _).own hown1 (fun k hk e => hgc ((by simpa [Value.ownBlock] using hk : gg = k).trans e))
    · rfl
    · rcases hk with hk | hk
      · exact .inl (.inl hk)
      · rcases hgg k hk with h | h
        · exact .inl (.inr h)
        · exact .inr h
  · rw [if_neg (by simpa using hd), show decide (t.d ≤ now) = false from by simpa using hd]
    have hd' : (now : Int) < (t.d : Int) := by omega
    have hI' := takeKeeps0 B bx cx now _ _ _ _ hI hu0
    have HI := Lib.hid hI'
    have HU := Lib.hid hu0
    clear hI hI' h1 h2 h3 hu0 hd
    go_enter Try.func33, Try.ntmps33
    go_wp2_with fail
    go_ret
    exact ⟨rfl, _, HI.out, HU.out.mono (fun _ _ h => h.elim), fun k hk => .inl hk⟩
end Go.Proofs.Ytgoaokgoenihlaa
