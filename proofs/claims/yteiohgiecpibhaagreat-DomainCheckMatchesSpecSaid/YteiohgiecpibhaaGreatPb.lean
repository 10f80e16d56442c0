/- A store of finite domains: applying a rule, applying all of them until nothing changes, searching. No program. -/
import Derived.Test.YteiohgiecpibhaaGreatPa
set_option linter.unusedVariables false
set_option linter.unusedSimpArgs false
namespace Go.Proofs.YteiohgiecpibhaaGreat.Fdm

/-- A constraint. -/
structure Con where
  kind : Int
  vars : List Int
  coefs : List Int
  needs : List Int
  rel : Int
  bound : Int
  tuples : List (List Int)
instance : Inhabited Con := ⟨⟨0, [], [], [], 0, 0, []⟩⟩
def con (P : List Con) (k : Nat) : Con := P.getD k default
def dm (D : List Dm) (v : Nat) : Dm := D.getD v []
def vr (c : Con) (i : Nat) : Nat := (c.vars.getD i 0).toNat
/-- The domains of its variables. -/
def pickF (D : List Dm) (c : Con) : List Dm := (List.range c.vars.length).map fun i => dm D (vr c i)
/-- What a rule removes: none where a domain is empty. -/
def apTo (c : Con) (X : List Dm) (D : List Dm) : Nat → Option (List Dm × List Nat)
  | 0 => some (D, [])
  | n + 1 => match apTo c X D n with
    | none => none
    | some (D', ch) =>
      let d := meetF (dm X n) (dm D' (vr c n))
      if d = [] then none else if d = dm D' (vr c n) then some (D', ch) else some (D'.set (vr c n) d, ch ++ [vr c n])
def apF (ru : Con → List Dm → List Dm) (c : Con) (D : List Dm) : Option (List Dm × List Nat) := apTo c (ru c (pickF D c)) D c.vars.length
/-- Whether the domains are such as the calls ask. -/
def okD (D : List Dm) : Bool := D.all fun d => decide (d.length ≠ 0) && decide (d.length ≤ 1000) && decide (spansTo d d.length = 0)
/-- Which constraints wait behind a change. -/
def wakes (c : Con) (ch : List Nat) : Bool := ch.any fun v => c.vars.contains (v : Int)
def wakeTo (P : List Con) (ch : List Nat) (w : List Bool) : Nat → List Bool
  | 0 => w
  | n + 1 => if wakes (con P n) ch then (wakeTo P ch w n).set n true else wakeTo P ch w n
def firstT : List Bool → Nat → Option Nat
  | [], _ => none
  | b :: w, i => if b then some i else firstT w (i + 1)
/-- Applying rules until none waits: none where the fuel is out, or the domains are not such as G asks; false where a domain is empty. -/
def stN (ru : Con → List Dm → List Dm) (G : Con → List Dm → Bool) (P : List Con) : Nat → List Dm → List Bool → Option (List Dm × Bool)
  | 0, _, _ => none
  | f + 1, D, w => match firstT w 0 with
    | none => some (D, true)
    | some i => if G (con P i) D then match apF ru (con P i) D with
        | none => some (D, false)
        | some (D', ch) => stN ru G P f D' (wakeTo P ch (w.set i false) P.length)
      else none
def waitsF (P : List Con) (vs : List Int) (first : Nat) : List Bool := (List.range P.length).map fun i => decide (first ≤ i) || (con P i).vars.any fun v => vs.contains v
def stF (ru : Con → List Dm → List Dm) (G : Con → List Dm → Bool) (P : List Con) (f : Nat) (D : List Dm) (vs : List Int) (first : Nat) : Option (List Dm × Bool) := stN ru G P f D (waitsF P vs first)
/-- A state with another domain of a variable. -/
def narF (ru : Con → List Dm → List Dm) (G : Con → List Dm → Bool) (P : List Con) (f : Nat) (D : List Dm) (v : Nat) (d : Dm) : Option (List Dm × Bool) :=
  if d = [] then some (D, false) else if d = dm D v then some (D, true) else stF ru G P f (D.set v d) [(v : Int)] P.length
/-- The first variable that is not fixed. -/
def varF (D : List Dm) (vs : List Int) : Option Nat := (vs.find? fun v => !fixedF (dm D v.toNat)).map Int.toNat
/-- What a search has: what was found, the fuel left, whether it is out. -/
structure Sea where
  found : List (List Int)
  fuel : Nat
  out : Bool
deriving DecidableEq
def Sea.step (s : Sea) : Bool × Sea := if s.fuel = 0 then (false, { s with out := true }) else (true, { s with fuel := s.fuel - 1 })
/-- By order, upwards: none where the depth is out, or the domains are not such as they should be. -/
def fromN (ru : Con → List Dm → List Dm) (G : Con → List Dm → Bool) (P : List Con) (vs : List Int) (most g : Nat) : Nat → List Dm → Sea → Option Sea
  | 0, _, _ => none
  | f + 1, D, s =>
    if ¬ (s.found.length < most) ∨ s.out = true then some s else
    if okD D = false then none else
    match varF D vs with
    | none => some { s with found := s.found ++ [vs.map fun v => leastF (dm D v.toNat)] }
    | some v =>
      if s.step.1 = false then some s.step.2 else
      match narF ru G P g D v (spanD (leastF (dm D v)) (leastF (dm D v))) with
      | none => none
      | some (D1, is) =>
        match (if is then fromN ru G P vs most g f D1 s.step.2 else some s.step.2) with
        | none => none
        | some s1 =>
          if ¬ (s1.found.length < most) ∨ s1.out = true then some s1 else
          if s1.step.1 = false then some s1.step.2 else
          match narF ru G P g D v (minusF (dm D v) (spanD (leastF (dm D v)) (leastF (dm D v)))) with
          | none => none
          | some (D2, is2) => if is2 then fromN ru G P vs most g f D2 s1.step.2 else some s1.step.2

/-- Different, where the small domains are single numbers. -/
def smallF (x : List Dm) : List Nat := (List.range x.length).filter fun i => decide (sizeF (dm x i) < x.length)
def critF (x : List Dm) : List Int := (smallF x).map fun i => leastF (dm x i)
def freeF (x : List Dm) (i : Nat) (v : Int) : Bool := (smallF x).all fun j => decide (j = i) || !decide (leastF (dm x j) = v)
def outF (x : List Dm) (i : Nat) (cr : List Int) : Dm := cr.foldl (fun o v => if memF (dm x i) v && !freeF x i v then minusF o (spanD v v) else o) (dm x i)
def isort (l : List Int) : List Int := l.foldr (fun x acc => (acc.takeWhile (· < x)) ++ x :: acc.dropWhile (· < x)) []
def difF (x : List Dm) : List Dm := (List.range x.length).map fun i => outF x i (isort (critF x))

def exC : Con := ⟨3, [0, 1], [], [], 0, 0, []⟩
def exP : List Con := [exC]
def exRu : Con → List Dm → List Dm := fun _ x => difF x
/-- Two domains, not two equal single numbers. -/
def exG (c : Con) (D : List Dm) : Bool := decide (c.kind = 3) && decide (c.vars = [0, 1]) && decide (D.length = 2) && okD D && !(decide (sizeF (dm D 0) < 2) && decide (sizeF (dm D 1) < 2) && decide (leastF (dm D 0) = leastF (dm D 1))) && (difF D).all fun d => decide (d.length ≤ 1000)
theorem ex_post : stF exRu exG exP 5 [[(0, 2)], [(0, 2)]] [] 0 = some ([[(0, 2)], [(0, 2)]], true) := by decide
theorem ex_label : fromN exRu exG exP [0, 1] 10 5 20 [[(0, 2)], [(0, 2)]] ⟨[], 100, false⟩ = some ⟨[[0, 1], [0, 2], [1, 0], [1, 2], [2, 0], [2, 1]], 90, false⟩ := by rfl
end Go.Proofs.YteiohgiecpibhaaGreat.Fdm
