/- What epochs are, in plain Lean: the epoch, what each worker announced, what waits. No program in sight. -/
namespace Go.Proofs.Ytmmhjibgmpdjoaa
namespace Md

/-- What the i-th one announced. -/
def wAt (ws : List Int) (i : Nat) : Int := ws.getD i (-1)
structure Ep where
  now : Nat
  ws : List Int
  wt : List (Nat × Nat)

/-- What a worker has announced; -1: it is out, or there is none. -/
def seenI (E : Ep) (i : Int) : Int := if 0 ≤ i ∧ i < E.ws.length then wAt E.ws i.toNat else -1
def annE (E : Ep) (i : Int) : Int := if 0 ≤ i ∧ i < E.ws.length then 0 else 2
def annSt (E : Ep) (i v : Int) : Ep := if 0 ≤ i ∧ i < E.ws.length then { E with ws := E.ws.set i.toNat v } else E
def behB (now : Nat) (e : Int) : Bool := e != -1 && e != now
def advB (E : Ep) : Bool := !(E.ws.any (behB E.now))
def advSt (E : Ep) : Ep := if advB E then { E with now := E.now + 1 } else E
def has (wt : List (Nat × Nat)) (s : Int) : Bool := wt.any fun p => (p.1 : Int) == s
def defE (E : Ep) (s : Int) : Int := if s < 0 ∨ 256 ≤ s then 2 else if has E.wt s then 7 else 0
def defSt (E : Ep) (s : Int) : Ep := if defE E s = 0 then { E with wt := E.wt ++ [(s.toNat, E.now)] } else E
def overB (now : Nat) (p : Nat × Nat) : Bool := decide (p.2 + 2 ≤ now)
def ripe (E : Ep) : List Nat := (E.wt.filter (overB E.now)).map Prod.fst
def ripeSt (E : Ep) : Ep := { E with wt := E.wt.filter fun p => !overB E.now p }
def fresh (n : Nat) : Ep := ⟨0, List.replicate n (-1), []⟩

/-- Sizes, and what is announced. -/
structure Ep.Ok (E : Ep) : Prop where
  now : E.now ≤ 1000000
  pos : 0 < E.ws.length
  len : E.ws.length ≤ 64
  ws : ∀ i, -1 ≤ wAt E.ws i ∧ wAt E.ws i ≤ E.now
  many : E.wt.length ≤ 1000000
  wt : ∀ j, j < E.wt.length → (E.wt.getD j (0, 0)).1 < 256 ∧ (E.wt.getD j (0, 0)).2 ≤ E.now
end Md
end Go.Proofs.Ytmmhjibgmpdjoaa
