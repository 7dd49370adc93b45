/- The document's Turn, walked. -/
import Derived.Test.YtgoaokgoenihlaaRefB
import Derived.Test.YtgoaokgoenihlaaHcl
import Derived.Laws.AppendOwnNone
namespace Go.Proofs.Ytgoaokgoenihlaa
open Go Go.RowKit Go.Deep Go.Maps

def lenOfV : Value → Nat
  | .slice _ n _ => n
  | _ => 0
theorem take_while_parts {α : Type} {p : α → Bool} : ∀ {M N : List α}, (∀ x ∈ M, p x = true) → (∀ x, N.head? = some x → p x = false) → (M ++ N).takeWhile p = M ∧ (M ++ N).dropWhile p = N
  | [], [], _, _ => ⟨rfl, rfl⟩
  | [], x :: l, _, h => by have := h x rfl; simp [this]
  | x :: M, N, h1, h2 => by
    have := h1 x List.mem_cons_self
    have ih := take_while_parts (M := M) (N := N) (fun y hy => h1 y (List.mem_cons_of_mem _ hy)) h2
    simp [this, ih.1, ih.2]
def dueNow (now : Nat) (t : Tm) : Bool := decide (t.d ≤ now)
theorem RIn.setL {w : World} {y : Nat} {p p' : Option Addr} {c c' : Nat} {R : Rf} {N : List Tm} (h : RIn w y p c R) (hl : LAt w p' c' N) (hne : ∀ k, LO p' k → k ≠ y) (hN : ∀ t ∈ N, t.d ≤ 1099511627776 ∧ t.h.Ok) (hm : N.length ≤ 1000000) :
    RIn (w.setCell ⟨y, 1, none⟩ (.slice p' N.length c')) y p' c' ⟨R.last, N⟩ := by
  have hu : Upto (fun k => k = y) w (w.setCell ⟨y, 1, none⟩ (.slice p' N.length c')) := (Upto.refl (fun k => k = y) w).setB rfl _
  refine ⟨(h.row.set 1 _).congr (fun i hi => ?_), hl.gen hu (fun k hk hl => hne k hl hk), ⟨h.ok.last, hN, hm⟩, hne⟩
  by_cases e : i = 1
  · subst e; rfl
  · have e0 : i = 0 := by omega
    subst e0
    rfl
theorem RIn.setLast {w : World} {y : Nat} {p : Option Addr} {c : Nat} {R : Rf} (h : RIn w y p c R) {now : Nat} (hn : now ≤ 1099511627776) :
    RIn (w.setCell ⟨y, 0, none⟩ (.int .i64 (now : Nat))) y p c ⟨now, R.L⟩ := by
  have hu : Upto (fun k => k = y) w (w.setCell ⟨y, 0, none⟩ (.int .i64 (now : Nat))) := (Upto.refl (fun k => k = y) w).setB rfl _
  refine ⟨(h.row.set 0 _).congr (fun i hi => ?_), h.l.gen hu (fun k hk hl => h.ne k hl hk), ⟨hn, h.ok.each, h.ok.many⟩, h.ne⟩
  by_cases e : i = 0
  · subst e; rfl
  · have e0 : i = 1 := by omega
    subst e0
    rfl

theorem LAt.tail {w : World} {q o c : Nat} {t : Tm} {l : List Tm} (h : LAt w (some ⟨q, o, none⟩) c (t :: l)) : LAt w (if c = 1 then some ⟨q, o, none⟩ else some ⟨q, o + 3, none⟩) (c - 1) l := by
  have hd : LAt w (some ⟨q, o + 1 * 3, none⟩) (c - 1) ((t :: l).drop 1) := h.drop (by simp)
  have hle := h.le
  by_cases hc : c = 1
  · rw [if_pos hc]
    have hl : l = [] := List.eq_nil_of_length_eq_zero (by simp at hle; omega)
    subst hl
    refine ⟨by simp, by simp [hc, maxLen], ?_⟩
    rcases h.at_ with ⟨e, _⟩ | ⟨q', o', ha, hq, _⟩
    · cases e
    · cases ha
      exact .inr ⟨q, o, rfl, hq, fun j u hj => by simp [rcl] at hj⟩
  · rw [if_neg hc]
    exact hd
theorem LO_tail {q o c k : Nat} (h : LO (if c = 1 then some ⟨q, o, none⟩ else some ⟨q, o + 3, none⟩) k) : LO (some ⟨q, o, none⟩) k := by
  obtain ⟨o', e⟩ := h
  split at e <;> (cases e; exact ⟨_, rfl⟩)

def RTurnP (y : Nat) (p : Option Addr) (now : Nat) (R : Rf) (w : World) (e : Ending) (w' : World) : Prop :=
  ∃ vo p' c', e = .returned (.tuple #[vo, .int .i64 0]) ∧ RIn w' y p' c' ⟨now, R.L.dropWhile (dueNow now)⟩ ∧ w'.ownsRow w.heap.size 31 2 vo ((R.L.takeWhile (dueNow now)).map Tm.h).length (hcl ((R.L.takeWhile (dueNow now)).map Tm.h)) ∧ Upto (fun k => k = y) w w' ∧ ∀ k, LO p' k → LO p k
theorem Turn_r_err (w : World) (y : Nat) (p : Option Addr) (c : Nat) (R : Rf) (now : Int) (h : RIn w y p c R) (hn : now < R.last ∨ 1099511627776 < now) :
    Calls Try.prog 19 #[.pointer (some ⟨y, 0, none⟩), .int .i64 now] w fun e w' => e = .returned (.tuple #[.slice none 0 0, .int .i64 2]) ∧ w = w' := by
  have hc := h.c0
  by_cases h1 : now < R.last
  · go_enter Try.func19, Try.ntmps19
    go_wp2
    go_ret2
    exact ⟨rfl, rfl⟩
  · have h2 : 1099511627776 < now := by omega
    go_enter Try.func19, Try.ntmps19
    go_wp2
    go_ret2
    exact ⟨rfl, rfl⟩
set_option maxRecDepth 100000 in
set_option maxHeartbeats 1000000 in
theorem Turn_r (w : World) (y : Nat) (p : Option Addr) (c : Nat) (R : Rf) (now : Nat) (h : RIn w y p c R) (hn : R.last ≤ now) (hn2 : now ≤ 1099511627776) :
    Calls Try.prog 19 #[.pointer (some ⟨y, 0, none⟩), .int .i64 (now : Nat)] w (RTurnP y p now R w) := by
  have hc := h.c0
  have hl := h.ok.many
  have i1 : ¬ (now : Int) < (R.last : Nat) := by omega
  have i2 : ¬ (1099511627776 : Int) < (now : Nat) := by omega
  have HH := Lib.hid h
  have hpl : ∀ k, LO p k → k < w.heap.size := fun k hk => by
    obtain ⟨o, rfl⟩ := hk
    rcases h.l.at_ with ⟨e, _⟩ | ⟨q, o', e, hq, _⟩
    · cases e
    · cases e; exact hq
  have HPL := Lib.hid hpl
  obtain ⟨j1, hj1, hy0, hy1, hy2⟩ := info_parts Try.info31
  clear h hpl
  go_enter Try.func19, Try.ntmps19
  go_wp2
  clear hc
  go_loopw [6] (fun v wr => ∃ (M N : List Tm) (m : Nat) (a' p' : Option Addr) (c' cp : Nat), v = .slice a' m c' ∧ m ≤ 1000000 ∧ Hid (R.L = M ++ N ∧ M.length = m) ∧ Hid (RIn wr y p' cp ⟨R.last, N⟩) ∧ Hid (wr.ownsRow w.heap.size 31 2 (.slice a' m c') m (hcl (M.map Tm.h))) ∧ Hid (Upto (fun k => k = y) w wr) ∧ Hid (∀ t ∈ M, dueNow now t = true) ∧ Hid (∀ k, LO p' k → LO p k)) (fun v _ => R.L.length - lenOfV v)
  case atStart => exact ⟨[], R.L, 0, none, p, 0, c, rfl, by omega, Lib.hid ⟨rfl, rfl⟩, HH, Lib.hid ⟨rfl, .inl ⟨rfl, rfl⟩⟩, Lib.hid (Upto.refl _ _), Lib.hid (fun t ht => by simp at ht), Lib.hid (fun _ h => h)⟩
  case round =>
    obtain ⟨M, N, m, a', p', c', cp, rfl, hm, HMN, HR, HO, HU, HD, HP⟩ := hrel
    have hc1 := HR.out.c1
    have hc0 := HR.out.c0
    have fx0 := HR.out.row.frozen 0
    have fx1 := HR.out.row.frozen 1
    cases N with
    | nil =>
      go_wp2_with fail
      go_ret2
      obtain ⟨h1, h2⟩ := take_while_parts (p := dueNow now) HD.out (N := []) (fun x hx => by cases hx)
      refine ⟨_, p', cp, rfl, ?_, ?_, HU.out.setB rfl _, HP.out⟩
      · rw [HMN.out.1, h2]; exact HR.out.setLast hn2
      · rw [HMN.out.1, h1, List.length_map, HMN.out.2]
        exact ((Upto.refl (fun k => k = y) wr).setB rfl _).own HO.out (fun k hk e => by have := (HO.out.lt k hk).1; have := HH.out.lt; omega)
    | cons t l =>
      obtain ⟨q, o, rfl, d0, d1, d2⟩ := HR.out.l.cells (j := 0) (by simp)
      obtain ⟨nl, hnl⟩ : ∃ nl, (t :: l).length = nl := ⟨_, rfl⟩
      rw [hnl] at hc1
      have hnp : (0 : Int) < (nl : Int) := by rw [← hnl]; simp
      have hnq : 0 < nl := by omega
      replace d0 : wr.cell? ⟨q, o, none⟩ = some (.int .i64 t.h.s) := by simpa [ts] using d0
      replace d1 : wr.cell? ⟨q, o + 1, none⟩ = some (.int .u32 (t.h.g : Nat)) := by simpa [tg] using d1
      replace d2 : wr.cell? ⟨q, o + 2, none⟩ = some (.int .i64 (t.d : Nat)) := by simpa [td] using d2
      by_cases hlt : t.d ≤ now
      · have hlt1 : (t.d : Int) ≤ (now : Nat) := by omega
        have ho1 := HO.out.alloc (.cells #[.int .i64 t.h.s, .int .u32 (t.h.g : Nat)] 31)
        have k1 := keep_alloc hc1 (.cells #[.int .i64 t.h.s, .int .u32 (t.h.g : Nat)] 31)
        have kf := (HR.out.row.alloc (.cells #[.int .i64 t.h.s, .int .u32 (t.h.g : Nat)] 31)).frozen 1
        have hyl := HR.out.lt
        have hws := HU.out.size
        have hyw := HH.out.lt
        have hny : ∀ k, (Value.slice a' m c').ownBlock = some k → ¬ k = y := fun k hk => by have := (HO.out.lt k hk).1; omega
        have HNY := Lib.hid hny
        have HNL := Lib.hid hnl
        clear hny hnl
        go_wp2_with (at_builtin; refine wpList_append_own _ rfl (.tmp 34) (.tmp 42) 34 rfl w.heap.size 31 j1 _ 2 16 Try.underlying34 hj1 hy0 hy1 hy2 rfl (by decide) (.slice a' m c') _ _ rfl ho1 ⟨wr.heap.size, 0, none⟩ 1 1 [.int .i64 t.h.s, .int .u32 (t.h.g : Nat)] rfl rfl (pair_new _ _ _ _) (pair_one _ _ _ _) (by unfold maxLen; omega) (by omega) (by simp; omega) ?_; intro v5 w5 hown5 hg5 _; obtain ⟨a5, c5, rfl, _⟩ := own_slice hown5; have hug := Upto.of_grown hg5; have y1 := hug.keep k1 (fun e => HNY.out _ e rfl); have yf := (hug.frozen (p := ⟨y, 1, none⟩) (by simp; omega) (fun e => HNY.out _ e rfl)).trans kf)
        go_roundw
        case rel =>
          have ht : R.L = (M ++ [t]) ++ l := by rw [HMN.out.1]; simp
          have hl2 := HR.out.l.tail
          have hnlm : (t :: l).length = nl := HNL.out
          have hll : l.length = nl - 1 := by rw [← hnlm]; simp
          rw [← hll]
          have hmem : ∀ u ∈ t :: l, u.d ≤ 1099511627776 ∧ u.h.Ok := HR.out.ok.each
          have hug2 := (Upto.refl NoS wr).alloc (.cells #[.int .i64 t.h.s, .int .u32 (t.h.g : Nat)] 31)
          have hUX : Upto (fun k => (Value.slice a' m c').ownBlock = some k) wr w5 := (hug2.mono (fun _ _ h => h.elim)).trans hug
          have hlo : ∀ k, (Value.slice a' m c').ownBlock = some k → ¬ (k = y ∨ LO (some ⟨q, o, none⟩) k) := fun k hk e => by
            have := (HO.out.lt k hk).1
            rcases e with e | e
            · exact HNY.out _ hk e
            · have := HPL.out k (HP.out k e); omega
          have hR5 := HR.out.gen hUX hlo
          have hmm : m + 1 ≤ 1000000 := by
            have h1 := HMN.out.2
            have h2 : R.L.length = M.length + (t :: l).length := by rw [HMN.out.1, List.length_append]
            rw [hnlm] at h2; omega
          refine ⟨M ++ [t], l, m + 1, a5, _, c5, cp - 1, rfl, hmm, Lib.hid ⟨ht, by rw [List.length_append, HMN.out.2]; rfl⟩, Lib.hid (hR5.setL (hl2.gen hUX (fun k hk e => hlo k hk (.inr (LO_tail e)))) (fun k e => HR.out.ne k (LO_tail e)) (fun u hu => hmem u (List.mem_cons_of_mem _ hu)) (by have h9 : (t :: l).length ≤ 1000000 := HR.out.ok.many; simp at h9; omega)), Lib.hid ?_, Lib.hid ?_, Lib.hid ?_, Lib.hid ?_⟩
          · rw [List.map_append]
            show World.ownsRow _ _ _ _ _ _ (hcl (M.map Tm.h ++ [t.h]))
            rw [hcl_snoc]
            exact ((Upto.refl (fun k => k = y) w5).setB rfl _).own hown5 (fun k hk e => by have := (hown5.lt k hk).1; omega)
          · refine (HU.out.trans' hUX (fun k hk e => ?_)).setB rfl _
            have := (HO.out.lt k e).1; omega
          · intro u hu
            rcases List.mem_append.1 hu with h | h
            · exact HD.out u h
            · simp at h; subst h; simp [dueNow]; omega
          · exact fun k e => HP.out k (LO_tail e)
        case measure =>
          have h1 := HMN.out.2
          have h2 : R.L.length = M.length + (t :: l).length := by rw [HMN.out.1, List.length_append]
          have hnlm : (t :: l).length = nl := HNL.out
          simp only [lenOfV]
          omega
      · have hlt1 : ¬ (t.d : Int) ≤ (now : Nat) := by omega
        clear hlt
        have HNL := Lib.hid hnl
        clear hnl
        go_wp2_with fail
        go_ret2
        obtain ⟨h1, h2⟩ := take_while_parts (p := dueNow now) HD.out (N := t :: l) (fun x hx => by cases hx; simp [dueNow]; omega)
        refine ⟨_, _, cp, rfl, ?_, ?_, HU.out.setB rfl _, HP.out⟩
        · rw [HMN.out.1, h2]; exact HR.out.setLast hn2
        · rw [HMN.out.1, h1, List.length_map, HMN.out.2]
          exact ((Upto.refl (fun k => k = y) wr).setB rfl _).own HO.out (fun k hk e => by have := (HO.out.lt k hk).1; have := HH.out.lt; omega)
end Go.Proofs.Ytgoaokgoenihlaa
