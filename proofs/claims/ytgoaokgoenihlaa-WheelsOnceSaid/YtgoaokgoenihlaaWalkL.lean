/- The chapter's example, walked. -/
import Derived.Test.YtgoaokgoenihlaaWalkK
namespace Go.Proofs.Ytgoaokgoenihlaa
open Go Go.RowKit Go.Deep Go.Maps

def S1 : Wh := ⟨4, 0, [⟨5, ⟨1, 0⟩⟩]⟩
def S2 : Wh := ⟨4, 0, [⟨5, ⟨1, 0⟩⟩, ⟨9, ⟨2, 0⟩⟩]⟩
def S3 : Wh := ⟨4, 0, [⟨5, ⟨1, 0⟩⟩, ⟨9, ⟨2, 0⟩⟩, ⟨5, ⟨3, 0⟩⟩]⟩
def S4 : Wh := ⟨4, 4, [⟨5, ⟨1, 0⟩⟩, ⟨9, ⟨2, 0⟩⟩, ⟨5, ⟨3, 0⟩⟩]⟩
def S5 : Wh := ⟨4, 5, [⟨9, ⟨2, 0⟩⟩]⟩
def S6 : Wh := ⟨4, 5, [⟨9, ⟨2, 0⟩⟩, ⟨3, ⟨4, 0⟩⟩]⟩
def S7 : Wh := ⟨4, 1000, []⟩
theorem told4 : S3.told 4 = [] := by
  unfold Wh.told
  rw [show S3.due 4 = [] from rfl]
  exact srt_self (by decide)
theorem told5 : S4.told 5 = [⟨5, ⟨1, 0⟩⟩, ⟨5, ⟨3, 0⟩⟩] := by
  unfold Wh.told
  rw [show S4.due 5 = [⟨5, ⟨1, 0⟩⟩, ⟨5, ⟨3, 0⟩⟩] from rfl]
  exact srt_self (by decide)
theorem told1000 : S6.told 1000 = [⟨3, ⟨4, 0⟩⟩, ⟨9, ⟨2, 0⟩⟩] := by
  unfold Wh.told
  rw [show S6.due 1000 = [⟨9, ⟨2, 0⟩⟩, ⟨3, ⟨4, 0⟩⟩] from rfl, srt_of_perm (List.Perm.swap _ _ _)]
  exact srt_self (by decide)
/-- A handle's two numbers. -/
def Lies (a : Hn) (s g : Int) : Prop := a.s = s ∧ ((a.g : Nat) : Int) = g
theorem W_put_to {w wr : World} {x : Nat} {O K : Nat → Prop} {S S' : Wh} (h : WdO w wr x O S K) (a : Hn) (d : Int) {e s g : Int} (hl : Lies a s g) (ha : a.Ok) (hm : S.E.length < 1000000) (h1 : S.putE a d = e) (h2 : S.putS a d = S') :
    Calls Try.prog 10 #[.pointer (some ⟨x, 0, none⟩), .agg #[.int .i64 s, .int .u32 g], .int .i64 d] wr (WPost w x K wr (.int .i64 e) S') := by rw [← h1, ← h2, ← hl.1, ← hl.2]; exact W_put h ha d hm
theorem W_next_to {w wr : World} {x : Nat} {O K : Nat → Prop} {S : Wh} (h : WdO w wr x O S K) {v : Value} (h1 : nextV S.E = v) : Calls Try.prog 11 #[.pointer (some ⟨x, 0, none⟩)] wr (WPost w x K wr v S) := by rw [← h1]; exact W_next h
/-- What Turn leaves, by its length. -/
def TPostN (w : World) (x : Nat) (O K : Nat → Prop) (wr : World) (er : Int) (n : Nat) (L : List Hn) (S' : Wh) (e : Ending) (w' : World) : Prop :=
  ∃ a c, e = .returned (.tuple #[.slice a n c, .int .i64 er]) ∧ w'.ownsRow wr.heap.size 31 2 (.slice a n c) L.length (hcl L) ∧ WdO w w' x O S' (fun k => K k ∨ (Value.slice a n c).ownBlock = some k) ∧ Upto (fun k => ¬ K k) wr w'
theorem W_turn_to {w wr : World} {x : Nat} {O K : Nat → Prop} {S S' : Wh} (h : WdO w wr x O S K) (now : Int) {er : Int} {n : Nat} {L : List Hn} (h1 : S.turnE now = er) (h2 : S.turnL now = L) (h3 : S.turnS now = S') (h4 : L.length = n) :
    Calls Try.prog 12 #[.pointer (some ⟨x, 0, none⟩), .int .i64 now] wr (TPostN w x O K wr er n L S') := by
  refine (W_turn h now).mono ?_
  rw [h1, h2, h3]
  rintro e w' ⟨vo, rfl, ho, hW, hu⟩
  obtain ⟨a, c, rfl, _⟩ := own_slice ho
  subst h4
  exact ⟨a, c, rfl, ho, hW, hu⟩
theorem same_to (w : World) {ba bb ea eb : Nat} {va vb : Value} {A B : List Hn} {q : Bool} (ha : w.ownsRow ba ea 2 va A.length (hcl A)) (hb : w.ownsRow bb eb 2 vb B.length (hcl B)) (hA : A.length ≤ 1000000) (hB : B.length ≤ 1000000) (hq : decide (A = B) = q) :
    Calls Try.prog 16 #[va, vb] w (SameP q w) := by rw [← hq]; exact same_any w ba bb ea eb va vb A B ha hb hA hB
/-- Four handles in a row. -/
def arrF (i : Nat) : Value := if i % 2 = 0 then .int .i64 ((i / 2 + 1 : Nat) : Int) else .int .u32 0
abbrev arrC : Array Value := #[.int .i64 1, .int .u32 0, .int .i64 2, .int .u32 0, .int .i64 3, .int .u32 0, .int .i64 4, .int .u32 0]
theorem arr_new (w : World) : (w.alloc (.cells arrC 63)).rowIs w.heap.size 63 8 arrF :=
  World.rowIs_alloc w arrC 63 arrF (fun i hi => by
    have : i < 8 := hi
    match i, this with
    | 0, _ => rfl | 1, _ => rfl | 2, _ => rfl | 3, _ => rfl | 4, _ => rfl | 5, _ => rfl | 6, _ => rfl | 7, _ => rfl)
theorem arr_cells {w : World} {b : Nat} (h : w.rowIs b 63 8 arrF) : (w.cell? ⟨b, 0, none⟩ = some (.int .i64 1) ∧ w.cell? ⟨b, 1, none⟩ = some (.int .u32 0)) ∧ (w.cell? ⟨b, 2, none⟩ = some (.int .i64 2) ∧ w.cell? ⟨b, 3, none⟩ = some (.int .u32 0)) ∧
    (w.cell? ⟨b, 4, none⟩ = some (.int .i64 3) ∧ w.cell? ⟨b, 5, none⟩ = some (.int .u32 0)) ∧ (w.cell? ⟨b, 6, none⟩ = some (.int .i64 4) ∧ w.cell? ⟨b, 7, none⟩ = some (.int .u32 0)) :=
  ⟨⟨h.cell (i := 0) (by omega), h.cell (i := 1) (by omega)⟩, ⟨h.cell (i := 2) (by omega), h.cell (i := 3) (by omega)⟩, ⟨h.cell (i := 4) (by omega), h.cell (i := 5) (by omega)⟩, ⟨h.cell (i := 6) (by omega), h.cell (i := 7) (by omega)⟩⟩
theorem lit_row (w : World) {a b : Hn} {s g s' g' : Int} (ha : Lies a s g) (hb : Lies b s' g') : (w.alloc (.cells #[.int .i64 s, .int .u32 g, .int .i64 s', .int .u32 g'] 31)).ownsRow 0 31 2 (.slice (some ⟨w.heap.size, 0, none⟩) 2 2) [a, b].length (hcl [a, b]) := by
  rw [← ha.1, ← ha.2, ← hb.1, ← hb.2]
  exact World.ownsRow_lit w #[.int .i64 a.s, .int .u32 (a.g : Nat), .int .i64 b.s, .int .u32 (b.g : Nat)] 2 (by omega) (by unfold maxLen; omega) rfl
theorem li1 : Lies ⟨1, 0⟩ 1 0 := ⟨rfl, rfl⟩
theorem li2 : Lies ⟨2, 0⟩ 2 0 := ⟨rfl, rfl⟩
theorem li3 : Lies ⟨3, 0⟩ 3 0 := ⟨rfl, rfl⟩
theorem li4 : Lies ⟨4, 0⟩ 4 0 := ⟨rfl, rfl⟩
theorem lit_small {a b : Hn} : [a, b].length ≤ 1000000 := by simp
theorem lit_same {a b : Hn} : decide ([a, b] = [a, b]) = true := by simp
theorem okh1 : (⟨1, 0⟩ : Hn).Ok := ⟨by decide, by decide, by decide⟩
theorem okh2 : (⟨2, 0⟩ : Hn).Ok := ⟨by decide, by decide, by decide⟩
theorem okh3 : (⟨3, 0⟩ : Hn).Ok := ⟨by decide, by decide, by decide⟩
theorem okh4 : (⟨4, 0⟩ : Hn).Ok := ⟨by decide, by decide, by decide⟩
theorem tf0 : ((fresh 4)).putE ⟨1, 0⟩ (5) = 0 ∧ ((fresh 4)).putS ⟨1, 0⟩ (5) = S1 ∧ ((fresh 4)).E.length < 1000000 := ⟨rfl, rfl, by decide⟩
theorem tf1 : (S1).putE ⟨2, 0⟩ (9) = 0 ∧ (S1).putS ⟨2, 0⟩ (9) = S2 ∧ (S1).E.length < 1000000 := ⟨rfl, rfl, by decide⟩
theorem tf2 : (S2).putE ⟨3, 0⟩ (5) = 0 ∧ (S2).putS ⟨3, 0⟩ (5) = S3 ∧ (S2).E.length < 1000000 := ⟨rfl, rfl, by decide⟩
theorem tf3 : (S3).putE ⟨1, 0⟩ (6) = 7 ∧ (S3).putS ⟨1, 0⟩ (6) = S3 ∧ (S3).E.length < 1000000 := ⟨rfl, rfl, by decide⟩
theorem tf4 : nextV (S3).E = .tuple #[.int .i64 5, .bool true] := rfl
theorem tf5 : (S3).turnE 4 = 0 ∧ (S3).turnL 4 = [] ∧ (S3).turnS 4 = S4 ∧ ([] : List Hn).length = 0 := ⟨rfl, (congrArg (List.map Tm.h) told4), rfl, rfl⟩
theorem tf6 : (S4).turnE 5 = 0 ∧ (S4).turnL 5 = [⟨1, 0⟩, ⟨3, 0⟩] ∧ (S4).turnS 5 = S5 ∧ ([⟨1, 0⟩, ⟨3, 0⟩] : List Hn).length = 2 := ⟨rfl, (congrArg (List.map Tm.h) told5), rfl, rfl⟩
theorem tf7 : (S5).turnE 4 = 2 ∧ (S5).turnL 4 = [] ∧ (S5).turnS 4 = S5 ∧ ([] : List Hn).length = 0 := ⟨rfl, rfl, rfl, rfl⟩
theorem tf8 : (S5).putE ⟨4, 0⟩ (3) = 0 ∧ (S5).putS ⟨4, 0⟩ (3) = S6 ∧ (S5).E.length < 1000000 := ⟨rfl, rfl, by decide⟩
theorem tf9 : (S6).turnE 1000 = 0 ∧ (S6).turnL 1000 = [⟨4, 0⟩, ⟨2, 0⟩] ∧ (S6).turnS 1000 = S7 ∧ ([⟨4, 0⟩, ⟨2, 0⟩] : List Hn).length = 2 := ⟨rfl, (congrArg (List.map Tm.h) told1000), rfl, rfl⟩
theorem tf10 : nextV (S7).E = .tuple #[.int .i64 0, .bool false] := rfl
theorem tf11 : (S7).putE ⟨1, 0⟩ (-1) = 2 ∧ (S7).putS ⟨1, 0⟩ (-1) = S7 ∧ (S7).E.length < 1000000 := ⟨rfl, rfl, by decide⟩

set_option maxRecDepth 100000 in
set_option maxHeartbeats 4000000 in
theorem timed_any (w : World) : Calls Try.prog 9 #[] w (Told (.bool true) w) := by
  go_enter Try.func9, Try.ntmps9
  go_wp2_with (first
    | (go_at_call 8; refine (W_new w _ 4 (by omega) (by omega) (Upto.refl NoS w) (fun _ => False) (fun _ h => h.elim)).mono ?_; rintro e w1 ⟨x, O0, rfl, hW0, hu0⟩; have hR := arr_new w1; have hA := hW0.add (K' := fun k => k = w1.heap.size) ((Upto.refl NoS w1).alloc (.cells arrC 63)) (fun k hk => .inr (by simp; omega)); obtain ⟨⟨z0, z1⟩, ⟨z2, z3⟩, ⟨z4, z5⟩, ⟨z6, z7⟩⟩ := arr_cells hR; clear hW0 hu0)
    | (go_at_call 10; ((with_reducible refine (W_put_to hA ⟨1, 0⟩ (5) (e := 0) (S' := S1) li1 okh1 tf0.2.2 tf0.1 tf0.2.1).mono ?_); rintro e w9 ⟨rfl, O9, h1, hu9⟩; have hR := hu9.row hR (fun h => h rfl); obtain ⟨⟨z0, z1⟩, ⟨z2, z3⟩, ⟨z4, z5⟩, ⟨z6, z7⟩⟩ := arr_cells hR))
    | (go_at_call 10; ((with_reducible refine (W_put_to h1 ⟨2, 0⟩ (9) (e := 0) (S' := S2) li2 okh2 tf1.2.2 tf1.1 tf1.2.1).mono ?_); rintro e w9 ⟨rfl, O9, h2, hu9⟩; have hR := hu9.row hR (fun h => h rfl); obtain ⟨⟨z0, z1⟩, ⟨z2, z3⟩, ⟨z4, z5⟩, ⟨z6, z7⟩⟩ := arr_cells hR))
    | (go_at_call 10; ((with_reducible refine (W_put_to h2 ⟨3, 0⟩ (5) (e := 0) (S' := S3) li3 okh3 tf2.2.2 tf2.1 tf2.2.1).mono ?_); rintro e w9 ⟨rfl, O9, h3, hu9⟩; have hR := hu9.row hR (fun h => h rfl); obtain ⟨⟨z0, z1⟩, ⟨z2, z3⟩, ⟨z4, z5⟩, ⟨z6, z7⟩⟩ := arr_cells hR))
    | (go_at_call 10; ((with_reducible refine (W_put_to h3 ⟨1, 0⟩ (6) (e := 7) (S' := S3) li1 okh1 tf3.2.2 tf3.1 tf3.2.1).mono ?_); rintro e w9 ⟨rfl, O9, h4, hu9⟩; have hR := hu9.row hR (fun h => h rfl); obtain ⟨⟨z0, z1⟩, ⟨z2, z3⟩, ⟨z4, z5⟩, ⟨z6, z7⟩⟩ := arr_cells hR))
    | (go_at_call 11; ((with_reducible refine (W_next_to h4 (v := .tuple #[.int .i64 5, .bool true]) tf4).mono ?_); rintro e w9 ⟨rfl, O9, h5, hu9⟩; have hR := hu9.row hR (fun h => h rfl); obtain ⟨⟨z0, z1⟩, ⟨z2, z3⟩, ⟨z4, z5⟩, ⟨z6, z7⟩⟩ := arr_cells hR))
    | (go_at_call 12; ((with_reducible refine (W_turn_to h5 4 (er := 0) (n := 0) (L := []) (S' := S4) tf5.1 tf5.2.1 tf5.2.2.1 tf5.2.2.2).mono ?_); rintro e w9 ⟨a9, c9, rfl, o9, h6, hu9⟩; have hR := hu9.row hR (fun h => h rfl); obtain ⟨⟨z0, z1⟩, ⟨z2, z3⟩, ⟨z4, z5⟩, ⟨z6, z7⟩⟩ := arr_cells hR; replace h6 := h6.mono (K' := fun k => k = w1.heap.size) (fun k hk => .inl hk)))
    | (go_at_call 12; ((with_reducible refine (W_turn_to h6 5 (er := 0) (n := 2) (L := [⟨1, 0⟩, ⟨3, 0⟩]) (S' := S5) tf6.1 tf6.2.1 tf6.2.2.1 tf6.2.2.2).mono ?_); rintro e w9 ⟨a9, c9, rfl, o9, h7, hu9⟩; have hR := hu9.row hR (fun h => h rfl); obtain ⟨⟨z0, z1⟩, ⟨z2, z3⟩, ⟨z4, z5⟩, ⟨z6, z7⟩⟩ := arr_cells hR; have ob := o9))
    | (go_at_call 12; ((with_reducible refine (W_turn_to h7 4 (er := 2) (n := 0) (L := []) (S' := S5) tf7.1 tf7.2.1 tf7.2.2.1 tf7.2.2.2).mono ?_); rintro e w9 ⟨a9, c9, rfl, o9, h8, hu9⟩; have hR := hu9.row hR (fun h => h (.inl rfl)); obtain ⟨⟨z0, z1⟩, ⟨z2, z3⟩, ⟨z4, z5⟩, ⟨z6, z7⟩⟩ := arr_cells hR; have ob := hu9.own ob (fun k hk h => h (.inr hk)); replace h8 := h8.mono (fun k hk => .inl hk)))
    | (go_at_call 10; ((with_reducible refine (W_put_to h8 ⟨4, 0⟩ (3) (e := 0) (S' := S6) li4 okh4 tf8.2.2 tf8.1 tf8.2.1).mono ?_); rintro e w9 ⟨rfl, O9, h9, hu9⟩; have hR := hu9.row hR (fun h => h (.inl rfl)); obtain ⟨⟨z0, z1⟩, ⟨z2, z3⟩, ⟨z4, z5⟩, ⟨z6, z7⟩⟩ := arr_cells hR; have ob := hu9.own ob (fun k hk h => h (.inr hk))))
    | (go_at_call 12; ((with_reducible refine (W_turn_to h9 1000 (er := 0) (n := 2) (L := [⟨4, 0⟩, ⟨2, 0⟩]) (S' := S7) tf9.1 tf9.2.1 tf9.2.2.1 tf9.2.2.2).mono ?_); rintro e w9 ⟨a9, c9, rfl, o9, h10, hu9⟩; have hR := hu9.row hR (fun h => h (.inl rfl)); obtain ⟨⟨z0, z1⟩, ⟨z2, z3⟩, ⟨z4, z5⟩, ⟨z6, z7⟩⟩ := arr_cells hR; have ob := hu9.own ob (fun k hk h => h (.inr hk)); have oc := o9))
    | (go_at_call 11; ((with_reducible refine (W_next_to h10 (v := .tuple #[.int .i64 0, .bool false]) tf10).mono ?_); rintro e w9 ⟨rfl, O9, h11, hu9⟩; have hR := hu9.row hR (fun h => h (.inl (.inl rfl))); obtain ⟨⟨z0, z1⟩, ⟨z2, z3⟩, ⟨z4, z5⟩, ⟨z6, z7⟩⟩ := arr_cells hR; have ob := hu9.own ob (fun k hk h => h (.inl (.inr hk))); have oc := hu9.own oc (fun k hk h => h (.inr hk))))
    | (go_at_call 16; ((with_reducible refine (same_to _ (ob.alloc (.cells #[.int .i64 1, .int .u32 0, .int .i64 3, .int .u32 0] 31)) (lit_row w9 li1 li3) lit_small lit_small (q := true) lit_same).mono ?_); rintro e w8 ⟨rfl, n8, rfl⟩; have hu9 : Upto NoS w9 _ := ((Upto.refl NoS w9).alloc (.cells #[.int .i64 1, .int .u32 0, .int .i64 3, .int .u32 0] 31)).drewN n8; have h12 := h11.quiet hu9; have hR := hu9.row hR id; have ob := hu9.own ob (fun k hk h => h); have oc := hu9.own oc (fun k hk h => h); obtain ⟨⟨z0, z1⟩, ⟨z2, z3⟩, ⟨z4, z5⟩, ⟨z6, z7⟩⟩ := arr_cells hR; generalize (w9.alloc (.cells #[.int .i64 1, .int .u32 0, .int .i64 3, .int .u32 0] 31)).drewN n8 = w9 at h12 hR ob oc z0 z1 z2 z3 z4 z5 z6 z7 ⊢))
    | (go_at_call 16; ((with_reducible refine (same_to _ (oc.alloc (.cells #[.int .i64 4, .int .u32 0, .int .i64 2, .int .u32 0] 31)) (lit_row w9 li4 li2) lit_small lit_small (q := true) lit_same).mono ?_); rintro e w8 ⟨rfl, n8, rfl⟩; have hu9 : Upto NoS w9 _ := ((Upto.refl NoS w9).alloc (.cells #[.int .i64 4, .int .u32 0, .int .i64 2, .int .u32 0] 31)).drewN n8; have h13 := h12.quiet hu9; have hR := hu9.row hR id; have ob := hu9.own ob (fun k hk h => h); have oc := hu9.own oc (fun k hk h => h); obtain ⟨⟨z0, z1⟩, ⟨z2, z3⟩, ⟨z4, z5⟩, ⟨z6, z7⟩⟩ := arr_cells hR; generalize (w9.alloc (.cells #[.int .i64 4, .int .u32 0, .int .i64 2, .int .u32 0] 31)).drewN n8 = w9 at h13 hR ob oc z0 z1 z2 z3 z4 z5 z6 z7 ⊢))
    | (go_at_call 13; ((with_reducible refine (W_count h13).mono ?_); rintro e w9 ⟨rfl, rfl⟩))
    | (go_at_call 10; ((with_reducible refine (W_put_to h13 ⟨1, 0⟩ (-1) (e := 2) (S' := S7) li1 okh1 tf11.2.2 tf11.1 tf11.2.1).mono ?_); rintro e w9 ⟨rfl, O9, h14, hu9⟩; have hT := h14.u)))
  go_ret
  exact ⟨rfl, hT⟩
end Go.Proofs.Ytgoaokgoenihlaa

