/- What a wheel and the document's answer alike, in plain words. -/
import Derived.Test.YtgoaokgoenihlaaDuo
namespace Go.Proofs.Ytgoaokgoenihlaa
open Go Go.RowKit Go.Deep Go.Maps

theorem RdO.other {w wr w' : World} {y : Nat} {O K T : Nat → Prop} {R : Rf} (h : RdO w wr y O R K) (hu : Upto T wr w') (hT : ∀ k, T k → ¬ O k) (hT' : ∀ k, T k → w.heap.size ≤ k) : RdO w w' y O R K :=
  ⟨h.at_.gen hu hT, h.u.trans' hu (fun k hk e => by have := hT' k e; omega), h.lo, h.apart, fun k hk => Nat.lt_of_lt_of_le (h.kl k hk) hu.size⟩
theorem Ahead.writeK {w wr w' : World} {xa xb hb : Nat} {Oa Ob K : Nat → Prop} {S : Wh} {R : Rf} (h : Ahead w wr xa xb Oa Ob S R K) (hu : Upto (fun k => k = hb) wr w') (hK : K hb) (hlo : w.heap.size ≤ hb) : Ahead w w' xa xb Oa Ob S R K :=
  ⟨h.a.other hu (fun k e => by rw [show k = hb from e]; exact h.a.apart hb (.inr hK)) (fun k e => by rw [show k = hb from e]; exact hlo),
   h.b.other hu (fun k e => by rw [show k = hb from e]; exact h.b.apart hb (.inr hK)) (fun k e => by rw [show k = hb from e]; exact hlo)⟩
theorem p_put (n last : Nat) (E : List Tm) (a : Hn) (d : Int) : (⟨last, srt E⟩ : Rf).putE a d = (⟨n, last, E⟩ : Wh).putE a d ∧ ∃ E', (⟨n, last, E⟩ : Wh).putS a d = ⟨n, last, E'⟩ ∧ (⟨last, srt E⟩ : Rf).putS a d = ⟨last, srt E'⟩ ∧ E'.length ≤ E.length + 1 := by
  have hf := ref_find E a
  unfold Wh.putE Wh.putS Rf.putE Rf.putS
  by_cases hd : d < 0 ∨ 1099511627776 < d
  · rw [if_pos hd, if_pos hd, if_pos hd, if_pos hd]
    exact ⟨rfl, E, rfl, rfl, by omega⟩
  · rw [if_neg hd, if_neg hd, if_neg hd, if_neg hd]
    by_cases h : fI (srt E) a < (srt E).length
    · have h' : ((⟨n, last, E⟩ : Wh).find a).isSome = true := hf.1 h
      have h2 : fI (⟨last, srt E⟩ : Rf).L a < (⟨last, srt E⟩ : Rf).L.length := h
      rw [if_pos h', if_pos h', if_pos h2, if_pos h2]
      exact ⟨rfl, E, rfl, rfl, by omega⟩
    · have h' : ¬ ((⟨n, last, E⟩ : Wh).find a).isSome = true := fun e => h (hf.2 e)
      have h2 : ¬ fI (⟨last, srt E⟩ : Rf).L a < (⟨last, srt E⟩ : Rf).L.length := h
      rw [if_neg h', if_neg h', if_neg h2, if_neg h2]
      exact ⟨rfl, E ++ [⟨d.toNat, a⟩], rfl, ref_ins _ _ _, by simp⟩
theorem p_cut {E : List Tm} (hn : (E.map Tm.h).Nodup) (n last : Nat) (a : Hn) : decide (fI (⟨last, srt E⟩ : Rf).L a < (⟨last, srt E⟩ : Rf).L.length) = ((⟨n, last, E⟩ : Wh).find a).isSome ∧ (⟨n, last, E⟩ : Wh).cut a = ⟨n, last, cutL E a⟩ ∧
    (if fI (⟨last, srt E⟩ : Rf).L a < (⟨last, srt E⟩ : Rf).L.length then (⟨(⟨last, srt E⟩ : Rf).last, (⟨last, srt E⟩ : Rf).L.take (fI (⟨last, srt E⟩ : Rf).L a) ++ (⟨last, srt E⟩ : Rf).L.drop (fI (⟨last, srt E⟩ : Rf).L a + 1)⟩ : Rf) else ⟨last, srt E⟩) = ⟨last, srt (cutL E a)⟩ := by
  have hf := ref_find E a
  by_cases h : fI (srt E) a < (srt E).length
  · have h2 : fI (⟨last, srt E⟩ : Rf).L a < (⟨last, srt E⟩ : Rf).L.length := h
    rw [if_pos h2, decide_eq_true h2]
    refine ⟨(hf.1 h).symm, rfl, ?_⟩
    show (⟨last, (srt E).take (fI (srt E) a) ++ (srt E).drop (fI (srt E) a + 1)⟩ : Rf) = _
    rw [ref_cut hn a h]
  · have h2 : ¬ fI (⟨last, srt E⟩ : Rf).L a < (⟨last, srt E⟩ : Rf).L.length := h
    rw [if_neg h2, decide_eq_false h2]
    have hfn : (⟨n, last, E⟩ : Wh).find a = none := by
      cases e : (⟨n, last, E⟩ : Wh).find a with
      | none => rfl
      | some t => exact (h (hf.2 (by show ((⟨n, last, E⟩ : Wh).find a).isSome = true; rw [e]; rfl))).elim
    have hc := Wh.cut_none hfn
    have hcl : cutL E a = E := congrArg Wh.E hc
    exact ⟨by rw [hfn]; rfl, rfl, by rw [hcl]⟩
theorem p_turn (n last : Nat) (E : List Tm) (now : Int) (hl : last ≤ 1099511627776) : (⟨last, srt E⟩ : Rf).turnE now = (⟨n, last, E⟩ : Wh).turnE now ∧ (⟨last, srt E⟩ : Rf).turnL now = (⟨n, last, E⟩ : Wh).turnL now ∧
    ∃ l' E', (⟨n, last, E⟩ : Wh).turnS now = ⟨n, l', E'⟩ ∧ (⟨last, srt E⟩ : Rf).turnS now = ⟨l', srt E'⟩ ∧ E'.length ≤ E.length ∧ l' ≤ 1099511627776 := by
  unfold Wh.turnE Wh.turnL Wh.turnS Rf.turnE Rf.turnL Rf.turnS
  by_cases hd : now < (last : Nat) ∨ 1099511627776 < now
  · repeat rw [if_pos hd]
    exact ⟨rfl, rfl, last, E, rfl, rfl, by omega, hl⟩
  · repeat rw [if_neg hd]
    have h := ref_turn E now.toNat
    exact ⟨rfl, h.1, now.toNat, turnT E now.toNat, rfl, by rw [h.2], turnT_le _ _, by omega⟩
theorem turnL_le (n last : Nat) (E : List Tm) (now : Int) : ((⟨n, last, E⟩ : Wh).turnL now).length ≤ E.length := by
  unfold Wh.turnL
  split
  · simp
  · exact turnR_le E _
theorem due_form (o : Option Tm) : ∃ (m : Nat) (q : Bool), dueV o = .tuple #[.int .i64 (m : Nat), .bool q] := by
  cases o with
  | none => exact ⟨0, false, rfl⟩
  | some t => exact ⟨t.d, true, rfl⟩
end Go.Proofs.Ytgoaokgoenihlaa
