/- WheelsSizes of porterlaw15 returns true for every two numbers of places and all acts, and its arguments read behind the call as they read before. No conditions. -/
import Derived.Test.YtgoaokgoenihlaaRows
import Derived.WalkKit
import Derived.ProofKit
import Derived.OpenShut
import Derived.ShutString
import Derived.ChangeOld
import Derived.Below
import Derived.Test.YtgoaokgoenihlaaSizesW
namespace Go.Proofs.Ytgoaokgoenihlaa.wheelsSizes
open Go.ChangeShapes Go.WideShapes Go.ChangeAt Go.RowKit
open Go.ChangeMaps (open_string shut_string)
set_option linter.unusedVariables false

theorem own : ownKnob Try.prog.godebug = none := by kernel_rfl
theorem laidOut : laidOutB Try.prog = true := by kernel_rfl

theorem okWide_arr {P : Program} {w : World} {r : Reach} {base : Nat} {t e : TypeId} {n : Nat} {v : Value} (ht : P.underlying t = some (.array n e)) (h : Value.okWide P w r base t v) : ∃ cs, v = .agg cs ∧ cs.size = P.cellsOf t := by
  simp only [Value.okWide, ht] at h
  obtain ⟨cs, h1, h2, _⟩ := h
  exact ⟨cs, h1, h2⟩
theorem k5 : Try.prog.cellsOf 5 = 1 := by kernel_rfl
theorem k47 : Try.prog.cellsOf 47 = 2 := by kernel_rfl
set_option maxRecDepth 100000 in
theorem open_two {H : Type} {enc : TypeId × Value → H} {w : World} {base : Nat} {spare : Nat → Bool} {held : Bool} {fuel : Nat} {cs : List Value} {x : DataW H × List MemPlace} (h : DataW.trod enc Try.prog w base spare held fuel 47 cs = some x) :
    ∃ s0 s1 : Nat, s0 < 256 ∧ s1 < 256 ∧ cs = [.int .u8 (s0 : Nat), .int .u8 (s1 : Nat)] := by
  obtain ⟨xs, m, _, _, hl, hlen, hi⟩ := DataW.trod_array Try.underlying47 h
  rw [k47] at hl
  obtain ⟨c0, c1, rfl⟩ := len2 hl
  obtain ⟨x0, x1, rfl⟩ := len2 hlen
  have h0 : DataW.trod enc Try.prog w base spare held m 5 [c0] = some x0 := by
    have this := hi 0 (by omega)
    rw [k5] at this
    simpa using this
  have h1 : DataW.trod enc Try.prog w base spare held m 5 [c1] = some x1 := by
    have this := hi 1 (by omega)
    rw [k5] at this
    simpa using this
  obtain ⟨n0, e0, _, g0⟩ := DataW.trod_int Try.underlying5 h0
  obtain ⟨n1, e1, _, g1⟩ := DataW.trod_int Try.underlying5 h1
  simp at e0 e1
  subst e0; subst e1
  have b0 := bounds_u8' g0
  have b1 := bounds_u8' g1
  obtain ⟨m0, rfl⟩ := Int.eq_ofNat_of_zero_le b0.1
  obtain ⟨m1, rfl⟩ := Int.eq_ofNat_of_zero_le b1.1
  exact ⟨m0, m1, by omega, by omega, rfl⟩
theorem walk (s0 s1 : Nat) (a1 : Option Addr) (len1 cap1 : Nat) (z : Nat → ActV) (w : World) (w0 : s0 < 256) (w1 : s1 < 256) (hm : len1 ≤ 9223372036854775807) (hz : ActsAt w a1 len1 z) :
    Calls Try.prog 5 #[.agg #[.int .u8 (s0 : Nat), .int .u8 (s1 : Nat)], .slice a1 len1 cap1] w fun e w' => e = .returned (.bool true) ∧ Below w.heap.size w w' := by
  refine (sizes_walk s0 s1 a1 len1 cap1 z w w0 w1 hm hz).mono ?_
  rintro e w' ⟨rfl, hu⟩
  exact ⟨rfl, hu.below (Nat.le_refl _) (fun _ h => h.elim)⟩

/-! ### THE ROW's STEP: WRITTEN OUT: LEAVE IT -/
set_option maxRecDepth 100000 in
theorem lifted (os : Os) (started : os.Started) (H : Type) (enc : TypeId × Value → H) :
    ReturnsInHanded {} Try.checked os 5 .any (Rows.wheelsSizesSpec.pre6 enc Try.prog Try.f5 Rows.wheelsSizesRow.domain false) (Rows.wheelsSizesSpec.post enc Try.prog Try.f5 false true false false) := by
  refine returnsInHanded_of_change (C := Try.checked) own started (by kernel_rfl) Try.func5
    (ChangeSpec.witness6 (enc := enc) (C := Try.checked) false ⟨#[], #[.agg #[.int .u8 0, .int .u8 0], .slice none 0 0], []⟩ 8 (by kernel_rfl) (by kernel_rfl) (by kernel_rfl) (by kernel_rfl)) ?_
  intro W base args ds gs before hval0 hW hcnd _
  have hval : ∀ (j : Nat) t v, Try.f5.params[j]? = some t → args[j]? = some v → Value.okWide Try.prog W .any base t v := hval0
  have hW' := hW
  obtain ⟨p, q, hA0, hV, rfl, hfz, hnd⟩ := hW
  have hA : DataW.TrodAll enc Try.prog W 0 (fun _ => true) true Try.f5.params.toList args.toList ds p := hA0
  rw [Try.params5] at hA hval
  obtain ⟨v0, vs0, d0, ds0, p0, q0, hargs, rfl, rfl, h0, r0⟩ := trodAll_cons hA
  obtain ⟨v1, vs1, d1, ds1, p1, q1, rfl, rfl, rfl, h1, r1⟩ := trodAll_cons r0
  obtain ⟨rfl, rfl, rfl⟩ := trodAll_nil r1
  obtain rfl : args = #[v0, v1] := by cases args; simp_all
  obtain ⟨rfl, rfl⟩ := trodVars_none hV
  obtain ⟨cs, rfl, hcs⟩ := okWide_arr Try.underlying47 (hval 0 47 v0 rfl rfl)
  obtain ⟨a1, len1, cap1, rfl⟩ := okWide_slice Try.underlying39 (hval 1 39 v1 rfl rfl)
  have k0 := h0
  have k1 := h1
  have lt0 : ∀ x ∈ p0, x.block < W.heap.size := by obtain ⟨m, hm⟩ := k0; exact DataW.trod_lt m _ _ _ hm
  have lt1 : ∀ x ∈ p1, x.block < W.heap.size := by obtain ⟨m, hm⟩ := k1; exact DataW.trod_lt m _ _ _ hm
  obtain ⟨s0, s1, w0, w1, hc⟩ : ∃ s0 s1 : Nat, s0 < 256 ∧ s1 < 256 ∧ cs = #[.int .u8 (s0 : Nat), .int .u8 (s1 : Nat)] := by
    obtain ⟨fuel, hf⟩ := h0
    obtain ⟨s0, s1, w0, w1, hc⟩ := open_two (cs := cs.toList) (by simpa [Value.cells] using hf)
    exact ⟨s0, s1, w0, w1, Array.toList_inj.1 hc⟩
  subst hc
  obtain ⟨hm, z, hz⟩ : len1 ≤ 9223372036854775807 ∧ ∃ z : Nat → ActV, ActsAt W a1 len1 z := by
    obtain ⟨fuel, hf⟩ := h1
    exact open_acts (by simpa [Value.cells] using hf)
  clear hA0 hval0
  refine (walk s0 s1 a1 len1 cap1 z W w0 w1 hm hz).mono fun e W' ⟨he, bel⟩ => ?_
  subst he
  exact ⟨_, rfl, _, _, _, [], _, [], hW', trodAll_mk1 (shut_bool Try.underlying4 _), (trodAll_cons_mk (Below.trod laidOut (by kernel_rfl) (of_decide_eq_true (by kernel_rfl)) k0 bel lt0) (trodAll_cons_mk (Below.trod laidOut (by kernel_rfl) (of_decide_eq_true (by kernel_rfl)) k1 bel lt1) trodAll_mk0)), rfl, bel.frame _, fun h => by cases h⟩

theorem over : Rows.wheelsSizesRow.holds Try.pinned (OpenSpec.ofChange Rows.wheelsSizesSpec) :=
  OpenClaim.holds_of_wide 5 Try.f5 rfl rfl rfl rfl rfl rfl rfl ⟨rfl, rfl, rfl, rfl, rfl⟩ rfl rfl rfl rfl rfl (by kernel_rfl) Try.func5 (by kernel_rfl)
    (of_decide_eq_true (by kernel_rfl)) (by unfold Func.isWrapper; first | (rw [if_pos (by decide +kernel)]; kernel_rfl) | (rw [if_neg (by decide +kernel)]; exact ⟨rfl, rfl⟩))
    (fun os started H enc _ => lifted os started H enc)

theorem proved : Rows.WheelsSizesSaid := over
#print axioms proved
end Go.Proofs.Ytgoaokgoenihlaa.wheelsSizes
