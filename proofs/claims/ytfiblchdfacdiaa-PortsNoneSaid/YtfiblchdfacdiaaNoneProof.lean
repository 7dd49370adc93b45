/- PortsNone of porterlaw16 returns true for every act, and its arguments read behind the call as they read before. No conditions. -/
import Derived.Test.YtfiblchdfacdiaaRows
import Derived.WalkKit
import Derived.ProofKit
import Derived.OpenShut
import Derived.ShutString
import Derived.ChangeOld
import Derived.Below
import Derived.Test.YtfiblchdfacdiaaNoneB
import Derived.Test.YtfiblchdfacdiaaOpen
import Derived.Lib.SmallJoins
namespace Go.Proofs.Ytfiblchdfacdiaa.portsNone
open Go.ChangeShapes Go.WideShapes Go.ChangeAt Go.RowKit
open Go.ChangeMaps (open_string shut_string)
set_option linter.unusedVariables false

theorem own : ownKnob Try.prog.godebug = none := by kernel_rfl
theorem laidOut : laidOutB Try.prog = true := by kernel_rfl

theorem walk (ak ap ai ao as' a b c d e f g y z : Int) (w : World) :
    Calls Try.prog 7 #[.agg #[.int .u8 ak, .int .u8 ap, .int .u8 ai, .int .u8 ao, .int .u8 as', .int .u8 a, .int .u32 b, .int .u16 c, .int .u32 d, .int .u16 e, .int .u16 f, .int .u16 g, .int .u32 y, .int .u16 z]] w fun e w' => e = .returned (.bool true) ∧ Below w.heap.size w w' := by
  refine (noneLaw_walk w ak ap ai ao as' a b c d e f g y z).mono ?_
  rintro e w' ⟨rfl, hu⟩
  exact ⟨rfl, hu.below (Nat.le_refl _) (fun _ h => h.elim)⟩

/-! ### THE ROW's STEP: WRITTEN OUT: LEAVE IT -/
set_option maxRecDepth 100000 in
theorem lifted (os : Os) (started : os.Started) (H : Type) (enc : TypeId × Value → H) :
    ReturnsInHanded {} Try.checked os 7 .any (Rows.portsNoneSpec.pre6 enc Try.prog Try.f7 Rows.portsNoneRow.domain false) (Rows.portsNoneSpec.post enc Try.prog Try.f7 false true false false) := by
  refine returnsInHanded_of_change (C := Try.checked) own started (by kernel_rfl) Try.func7
    (ChangeSpec.witness6 (enc := enc) (C := Try.checked) false ⟨#[], #[.agg #[.int .u8 0, .int .u8 0, .int .u8 0, .int .u8 0, .int .u8 0, .int .u8 0, .int .u32 0, .int .u16 0, .int .u32 0, .int .u16 0, .int .u16 0, .int .u16 0, .int .u32 0, .int .u16 0]], []⟩ 8 (by kernel_rfl) (by kernel_rfl) (by kernel_rfl) (by kernel_rfl)) ?_
  intro W base args ds gs before hval0 hW hcnd _
  have hval : ∀ (j : Nat) t v, Try.f7.params[j]? = some t → args[j]? = some v → Value.okWide Try.prog W .any base t v := hval0
  have hW' := hW
  obtain ⟨p, q, hA0, hV, rfl, hfz, hnd⟩ := hW
  have hA : DataW.TrodAll enc Try.prog W 0 (fun _ => true) true Try.f7.params.toList args.toList ds p := hA0
  rw [Try.params7] at hA hval
  obtain ⟨v0, vs0, d0, ds0, p0, q0, hargs, rfl, rfl, h0, r0⟩ := trodAll_cons hA
  obtain ⟨rfl, rfl, rfl⟩ := trodAll_nil r0
  obtain rfl : args = #[v0] := by cases args; simp_all
  obtain ⟨rfl, rfl⟩ := trodVars_none hV
  obtain ⟨cs, rfl, hcs⟩ := okWide_struct Try.underlying50 (hval 0 50 v0 rfl rfl)
  have k1 := h0
  have lt1 : ∀ x ∈ p0, x.block < W.heap.size := by obtain ⟨m, hm⟩ := k1; exact DataW.trod_lt m _ _ _ hm
  obtain ⟨ak, ap, ai, ao, as', a, b, c, d, e, f, g, y, z, hc⟩ : ∃ ak ap ai ao as' a b c d e f g y z : Int, cs = #[.int .u8 ak, .int .u8 ap, .int .u8 ai, .int .u8 ao, .int .u8 as', .int .u8 a, .int .u32 b, .int .u16 c, .int .u32 d, .int .u16 e, .int .u16 f, .int .u16 g, .int .u32 y, .int .u16 z] := by
    obtain ⟨fuel, hf⟩ := h0
    obtain ⟨ak, ap, ai, ao, as', a, b, c, d, e, f, g, y, z, hc⟩ := open_act (cs := cs.toList) (by simpa [Value.cells] using hf)
    exact ⟨ak, ap, ai, ao, as', a, b, c, d, e, f, g, y, z, Array.toList_inj.1 hc⟩
  subst hc
  clear hA0 hval0
  refine (walk ak ap ai ao as' a b c d e f g y z W).mono fun e W' ⟨he, bel⟩ => ?_
  subst he
  exact ⟨_, rfl, _, _, _, [], _, [], hW', trodAll_mk1 (shut_bool Try.underlying4 _), (trodAll_cons_mk (Below.trod laidOut (by kernel_rfl) (of_decide_eq_true (by kernel_rfl)) k1 bel lt1) trodAll_mk0), rfl, bel.frame _, fun h => by cases h⟩

theorem over : Rows.portsNoneRow.holds Try.pinned (OpenSpec.ofChange Rows.portsNoneSpec) :=
  OpenClaim.holds_of_wide 7 Try.f7 rfl rfl rfl rfl rfl rfl rfl ⟨rfl, rfl, rfl, rfl, rfl⟩ rfl rfl rfl rfl rfl (by kernel_rfl) Try.func7 (by kernel_rfl)
    (of_decide_eq_true (by kernel_rfl)) (by unfold Func.isWrapper; first | (rw [if_pos (by decide +kernel)]; kernel_rfl) | (rw [if_neg (by decide +kernel)]; exact ⟨rfl, rfl⟩))
    (fun os started H enc _ => lifted os started H enc)

theorem proved : Rows.PortsNoneSaid := over
#print axioms proved
end Go.Proofs.Ytfiblchdfacdiaa.portsNone
