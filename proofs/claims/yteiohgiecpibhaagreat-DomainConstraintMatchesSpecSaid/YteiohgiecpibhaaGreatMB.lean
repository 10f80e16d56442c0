/- Sets of numbers as rising spans with gaps; a store of finite domains and its search. No program. -/
import Derived.WalkKit
set_option linter.unusedVariables false
set_option linter.unusedSimpArgs false
namespace Go.Proofs.YteiohgiecpibhaaGreat.Fdm

abbrev Sp := Int × Int
abbrev Dm := List Sp
def sp (d : Dm) (i : Nat) : Sp := d.getD i (0, 0)
/-- The error of a span. -/
def spanF (d : Dm) (i : Nat) : Int :=
  if (sp d i).1 < -16384 ∨ 16384 < (sp d i).2 ∨ (sp d i).2 < (sp d i).1 then 1
  else if 0 < i ∧ (sp d i).1 ≤ (sp d (i - 1)).2 + 1 then 2 else 0
def spansTo (d : Dm) : Nat → Int
  | 0 => 0
  | n + 1 => if spansTo d n ≠ 0 then spansTo d n else spanF d n
/-- The error of a domain. -/
def chkD (d : Dm) : Int := if 256 < d.length then 3 else if d.length = 0 then 15 else spansTo d d.length

theorem spansTo_stay {d : Dm} {k n : Nat} (h0 : spansTo d k = 0) (h : spanF d k ≠ 0) (hn : k < n) : spansTo d n = spanF d k := by
  obtain ⟨e, rfl⟩ : ∃ e, n = k + 1 + e := ⟨n - k - 1, by omega⟩
  clear hn
  induction e with
  | zero => show (if spansTo d k ≠ 0 then _ else _) = _; rw [if_neg (by rw [h0]; simp)]
  | succ e ih =>
    show (if spansTo d (k + 1 + e) ≠ 0 then spansTo d (k + 1 + e) else _) = _
    rw [if_pos (by rw [ih]; exact h), ih]
theorem spansTo_next {d : Dm} {k : Nat} (h0 : spansTo d k = 0) (h : spanF d k = 0) : spansTo d (k + 1) = 0 := by
  show (if spansTo d k ≠ 0 then _ else _) = _
  rw [if_neg (by rw [h0]; simp)]; exact h
theorem spansTo_prev {d : Dm} {k : Nat} (h : spansTo d (k + 1) = 0) : spansTo d k = 0 ∧ spanF d k = 0 := by
  have e : (if spansTo d k ≠ 0 then spansTo d k else spanF d k) = 0 := h
  by_cases q : spansTo d k = 0
  · rw [if_neg (by rw [q]; simp)] at e; exact ⟨q, e⟩
  · rw [if_pos q] at e; exact absurd e q
theorem spansTo_all {d : Dm} {n k : Nat} (h : spansTo d n = 0) (hk : k < n) : spanF d k = 0 := by
  induction n with
  | zero => omega
  | succ n ih =>
    have := spansTo_prev h
    by_cases e : k = n
    · subst e; exact this.2
    · exact ih this.1 (by omega)
theorem spanF_zero {d : Dm} {i : Nat} (h : spanF d i = 0) : -16384 ≤ (sp d i).1 ∧ (sp d i).2 ≤ 16384 ∧ (sp d i).1 ≤ (sp d i).2 ∧ (0 < i → (sp d (i - 1)).2 + 1 < (sp d i).1) := by
  unfold spanF at h
  by_cases q : (sp d i).1 < -16384 ∨ 16384 < (sp d i).2 ∨ (sp d i).2 < (sp d i).1
  · rw [if_pos q] at h; simp at h
  · rw [if_neg q] at h
    by_cases r : 0 < i ∧ (sp d i).1 ≤ (sp d (i - 1)).2 + 1
    · rw [if_pos r] at h; simp at h
    · exact ⟨by omega, by omega, by omega, fun h0 => by omega⟩

/-- How many numbers. -/
def sizeF (d : Dm) : Int := d.foldl (fun n s => n + (s.2 - s.1 + 1)) 0
def memF (d : Dm) (v : Int) : Bool := d.any fun s => decide (s.1 ≤ v) && decide (v ≤ s.2)
/-- The meet of what is left of two. -/
def meetN : Nat → Dm → Dm → Dm
  | 0, _, _ => []
  | _ + 1, [], _ => []
  | _ + 1, _ :: _, [] => []
  | f + 1, a :: x, b :: y =>
    (if max a.1 b.1 ≤ min a.2 b.2 then [(max a.1 b.1, min a.2 b.2)] else []) ++ (if a.2 < b.2 then meetN f x (b :: y) else meetN f (a :: x) y)
def meetF (a b : Dm) : Dm := meetN (a.length + b.length) a b
theorem meetN_enough : ∀ (f g : Nat) (a b : Dm), a.length + b.length ≤ f → a.length + b.length ≤ g → meetN f a b = meetN g a b
  | 0, g, a, b, h, _ => by
    have e : a = [] := List.length_eq_zero_iff.1 (by omega)
    subst e
    cases g <;> simp [meetN]
  | f + 1, 0, a, b, _, h => by
    have e : a = [] := List.length_eq_zero_iff.1 (by omega)
    subst e
    simp [meetN]
  | f + 1, g + 1, [], _, _, _ => by simp [meetN]
  | f + 1, g + 1, _ :: _, [], _, _ => by simp [meetN]
  | f + 1, g + 1, a :: x, b :: y, h1, h2 => by
    simp only [List.length_cons] at h1 h2
    simp only [meetN]
    rw [meetN_enough f g x (b :: y) (by simp; omega) (by simp; omega), meetN_enough f g (a :: x) y (by simp; omega) (by simp; omega)]
theorem meetF_nil_left (b : Dm) : meetF [] b = [] := by unfold meetF; cases ([] : Dm).length + b.length <;> simp [meetN]
theorem meetF_nil_right (a : Dm) : meetF a [] = [] := by
  unfold meetF
  cases a with
  | nil => simp [meetN]
  | cons a x => simp [meetN]
theorem meetF_cons (a b : Sp) (x y : Dm) : meetF (a :: x) (b :: y) =
    (if max a.1 b.1 ≤ min a.2 b.2 then [(max a.1 b.1, min a.2 b.2)] else []) ++ (if a.2 < b.2 then meetF x (b :: y) else meetF (a :: x) y) := by
  unfold meetF
  rw [show (a :: x).length + (b :: y).length = (x.length + y.length + 1) + 1 from by simp; omega]
  simp only [meetN]
  rw [meetN_enough (x.length + y.length + 1) (x.length + (b :: y).length) x (b :: y) (by simp; omega) (by simp),
    meetN_enough (x.length + y.length + 1) ((a :: x).length + y.length) (a :: x) y (by simp; omega) (by simp)]
theorem drop_sp {d : Dm} {i : Nat} (h : i < d.length) : d.drop i = sp d i :: d.drop (i + 1) := by
  rw [List.drop_eq_getElem_cons h]
  congr 1
  unfold sp
  rw [List.getD_eq_getElem?_getD, List.getElem?_eq_getElem h]; rfl
/-- A step of the meet. -/
theorem meet_step {a b : Dm} {i k : Nat} (hi : i < a.length) (hk : k < b.length) : meetF (a.drop i) (b.drop k) =
    (if max (sp a i).1 (sp b k).1 ≤ min (sp a i).2 (sp b k).2 then [(max (sp a i).1 (sp b k).1, min (sp a i).2 (sp b k).2)] else []) ++
    (if (sp a i).2 < (sp b k).2 then meetF (a.drop (i + 1)) (b.drop k) else meetF (a.drop i) (b.drop (k + 1))) := by
  rw [drop_sp hi, drop_sp hk, meetF_cons]
theorem meet_end {a b : Dm} {i k : Nat} (h : a.length ≤ i ∨ b.length ≤ k) : meetF (a.drop i) (b.drop k) = [] := by
  rcases h with h | h
  · rw [List.drop_eq_nil_of_le h]; exact meetF_nil_left _
  · rw [List.drop_eq_nil_of_le h]; exact meetF_nil_right _

/-- Back to the first span that may reach up to low. -/
def backK (b : Dm) (low : Int) : Nat → Nat
  | 0 => 0
  | k + 1 => if low ≤ (sp b k).2 then backK b low k else k + 1
/-- What a span is cut into by the spans from k on: (out, low, k). -/
def cutN (b : Dm) (high : Int) : Nat → Nat → Int → Dm → Dm × Int × Nat
  | 0, k, low, out => (out, low, k)
  | f + 1, k, low, out =>
    if k < b.length ∧ (sp b k).1 ≤ high then
      if (sp b k).2 < low then cutN b high f (k + 1) low out
      else cutN b high f (k + 1) ((sp b k).2 + 1) (if low < (sp b k).1 then out ++ [(low, (sp b k).1 - 1)] else out)
    else (out, low, k)
def cutF (b : Dm) (high : Int) (k : Nat) (low : Int) (out : Dm) : Dm × Int × Nat := cutN b high (b.length - k) k low out
theorem cutF_step {b : Dm} {high : Int} {k : Nat} {low : Int} {out : Dm} (hk : k < b.length) (h : (sp b k).1 ≤ high) :
    cutF b high k low out = if (sp b k).2 < low then cutF b high (k + 1) low out else cutF b high (k + 1) ((sp b k).2 + 1) (if low < (sp b k).1 then out ++ [(low, (sp b k).1 - 1)] else out) := by
  unfold cutF
  rw [show b.length - k = (b.length - (k + 1)) + 1 from by omega]
  simp only [cutN]
  rw [if_pos ⟨hk, h⟩]
theorem cutF_end {b : Dm} {high : Int} {k : Nat} {low : Int} {out : Dm} (h : ¬ (k < b.length ∧ (sp b k).1 ≤ high)) : cutF b high k low out = (out, low, k) := by
  unfold cutF
  cases e : b.length - k with
  | zero => rfl
  | succ f => simp only [cutN]; rw [if_neg h]
/-- One span less the others. -/
def lessS (b : Dm) (s : Sp) (o : Dm × Nat) : Dm × Nat :=
  let r := cutF b s.2 (backK b s.1 o.2) s.1 o.1
  (if r.2.1 ≤ s.2 then r.1 ++ [(r.2.1, s.2)] else r.1, r.2.2)
def lessTo (a b : Dm) : Nat → Dm × Nat
  | 0 => ([], 0)
  | n + 1 => lessS b (sp a n) (lessTo a b n)
def minusF (a b : Dm) : Dm := (lessTo a b a.length).1
def spanD (low high : Int) : Dm := if high < low then [] else [(low, high)]
def fixedF (d : Dm) : Bool := decide (d.length = 1) && decide ((sp d 0).1 = (sp d 0).2)
def leastF (d : Dm) : Int := (sp d 0).1

theorem sizeF_from (d : Dm) (m : Int) : d.foldl (fun n s => n + (s.2 - s.1 + 1)) m = m + sizeF d := by
  induction d generalizing m with
  | nil => simp [sizeF]
  | cons s d ih => simp only [sizeF, List.foldl_cons]; rw [ih, ih (0 + _)]; omega
def sizeTo (d : Dm) (k : Nat) : Int := sizeF (d.take k)
theorem sizeTo_next {d : Dm} {k : Nat} (h : k < d.length) : sizeTo d (k + 1) = sizeTo d k + ((sp d k).2 - (sp d k).1 + 1) := by
  unfold sizeTo
  rw [List.take_add_one, List.getElem?_eq_getElem h]
  simp only [Option.toList, sizeF, List.foldl_append, List.foldl_cons, List.foldl_nil]
  congr 2
  all_goals unfold sp; rw [List.getD_eq_getElem?_getD, List.getElem?_eq_getElem h]; rfl
theorem sizeTo_all (d : Dm) : sizeTo d d.length = sizeF d := by unfold sizeTo; rw [List.take_length]
/-- Rising spans within the bounds. -/
def Ok (d : Dm) : Prop := ∀ i, i < d.length → spanF d i = 0
theorem ok_of_chk {d : Dm} (h : chkD d = 0) : Ok d ∧ d.length ≤ 256 ∧ 0 < d.length := by
  unfold chkD at h
  by_cases a : 256 < d.length
  · rw [if_pos a] at h; simp at h
  · rw [if_neg a] at h
    by_cases b : d.length = 0
    · rw [if_pos b] at h; simp at h
    · rw [if_neg b] at h
      exact ⟨fun i hi => spansTo_all h hi, by omega, by omega⟩
theorem spansTo_ok {d : Dm} (h : Ok d) : ∀ n, n ≤ d.length → spansTo d n = 0
  | 0, _ => rfl
  | n + 1, hn => spansTo_next (spansTo_ok h n (by omega)) (h n (by omega))
theorem ok_sizeTo {d : Dm} (h : Ok d) : ∀ k, k ≤ d.length → 0 ≤ sizeTo d k ∧ (0 < k → sizeTo d k ≤ (sp d (k - 1)).2 + 16385)
  | 0, _ => ⟨by simp [sizeTo, sizeF], fun q => absurd q (Nat.lt_irrefl _)⟩
  | k + 1, hk => by
    have ih := ok_sizeTo h k (by omega)
    have z := spanF_zero (h k (by omega))
    rw [sizeTo_next (by omega)]
    refine ⟨by omega, fun _ => ?_⟩
    rw [Nat.add_sub_cancel]
    by_cases q : k = 0
    · subst q; have := z.1; simp [sizeTo, sizeF]; omega
    · have i2 := ih.2 (by omega)
      have z4 := z.2.2.2 (by omega)
      omega
end Go.Proofs.YteiohgiecpibhaaGreat.Fdm
set_option linter.unusedVariables false
set_option linter.unusedSimpArgs false
namespace Go.Proofs.YteiohgiecpibhaaGreat.Fdm

/-- A constraint. -/
structure Con where
  kind : Int
  vars : List Int
  coefs : List Int
  needs : List Int
  rel : Int
  bound : Int
  tuples : List (List Int)
instance : Inhabited Con := ⟨⟨0, [], [], [], 0, 0, []⟩⟩
def con (P : List Con) (k : Nat) : Con := P.getD k default
def dm (D : List Dm) (v : Nat) : Dm := D.getD v []
def vr (c : Con) (i : Nat) : Nat := (c.vars.getD i 0).toNat
/-- The domains of its variables. -/
def pickF (D : List Dm) (c : Con) : List Dm := (List.range c.vars.length).map fun i => dm D (vr c i)
/-- What a rule removes: none where a domain is empty. -/
def apTo (c : Con) (X : List Dm) (D : List Dm) : Nat → Option (List Dm × List Nat)
  | 0 => some (D, [])
  | n + 1 => match apTo c X D n with
    | none => none
    | some (D', ch) =>
      let d := meetF (dm X n) (dm D' (vr c n))
      if d = [] then none else if d = dm D' (vr c n) then some (D', ch) else some (D'.set (vr c n) d, ch ++ [vr c n])
def apF (ru : Con → List Dm → List Dm) (c : Con) (D : List Dm) : Option (List Dm × List Nat) := apTo c (ru c (pickF D c)) D c.vars.length
/-- Whether the domains are such as the calls ask. -/
def okD (D : List Dm) : Bool := D.all fun d => decide (d.length ≠ 0) && decide (d.length ≤ 1000) && decide (spansTo d d.length = 0)
/-- Which constraints wait behind a change. -/
def wakes (c : Con) (ch : List Nat) : Bool := ch.any fun v => c.vars.contains (v : Int)
def wakeTo (P : List Con) (ch : List Nat) (w : List Bool) : Nat → List Bool
  | 0 => w
  | n + 1 => if wakes (con P n) ch then (wakeTo P ch w n).set n true else wakeTo P ch w n
def firstT : List Bool → Nat → Option Nat
  | [], _ => none
  | b :: w, i => if b then some i else firstT w (i + 1)
/-- Applying rules until none waits: none where the fuel is out, or the domains are not such as G asks; false where a domain is empty. -/
def stN (ru : Con → List Dm → List Dm) (G : Con → List Dm → Bool) (P : List Con) : Nat → List Dm → List Bool → Option (List Dm × Bool)
  | 0, _, _ => none
  | f + 1, D, w => match firstT w 0 with
    | none => some (D, true)
    | some i => if G (con P i) D then match apF ru (con P i) D with
        | none => some (D, false)
        | some (D', ch) => stN ru G P f D' (wakeTo P ch (w.set i false) P.length)
      else none
def waitsF (P : List Con) (vs : List Int) (first : Nat) : List Bool := (List.range P.length).map fun i => decide (first ≤ i) || (con P i).vars.any fun v => vs.contains v
def stF (ru : Con → List Dm → List Dm) (G : Con → List Dm → Bool) (P : List Con) (f : Nat) (D : List Dm) (vs : List Int) (first : Nat) : Option (List Dm × Bool) := stN ru G P f D (waitsF P vs first)
/-- A state with another domain of a variable. -/
def narF (ru : Con → List Dm → List Dm) (G : Con → List Dm → Bool) (P : List Con) (f : Nat) (D : List Dm) (v : Nat) (d : Dm) : Option (List Dm × Bool) :=
  if d = [] then some (D, false) else if d = dm D v then some (D, true) else stF ru G P f (D.set v d) [(v : Int)] P.length
/-- The first variable that is not fixed. -/
def varF (D : List Dm) (vs : List Int) : Option Nat := (vs.find? fun v => !fixedF (dm D v.toNat)).map Int.toNat
/-- What a search has: what was found, the fuel left, whether it is out. -/
structure Sea where
  found : List (List Int)
  fuel : Nat
  out : Bool
deriving DecidableEq
def Sea.step (s : Sea) : Bool × Sea := if s.fuel = 0 then (false, { s with out := true }) else (true, { s with fuel := s.fuel - 1 })
/-- By order, upwards: none where the depth is out, or the domains are not such as they should be. -/
def fromN (ru : Con → List Dm → List Dm) (G : Con → List Dm → Bool) (P : List Con) (vs : List Int) (most g : Nat) : Nat → List Dm → Sea → Option Sea
  | 0, _, _ => none
  | f + 1, D, s =>
    if ¬ (s.found.length < most) ∨ s.out = true then some s else
    if okD D = false then none else
    match varF D vs with
    | none => some { s with found := s.found ++ [vs.map fun v => leastF (dm D v.toNat)] }
    | some v =>
      if s.step.1 = false then some s.step.2 else
      match narF ru G P g D v (spanD (leastF (dm D v)) (leastF (dm D v))) with
      | none => none
      | some (D1, is) =>
        match (if is then fromN ru G P vs most g f D1 s.step.2 else some s.step.2) with
        | none => none
        | some s1 =>
          if ¬ (s1.found.length < most) ∨ s1.out = true then some s1 else
          if s1.step.1 = false then some s1.step.2 else
          match narF ru G P g D v (minusF (dm D v) (spanD (leastF (dm D v)) (leastF (dm D v)))) with
          | none => none
          | some (D2, is2) => if is2 then fromN ru G P vs most g f D2 s1.step.2 else some s1.step.2

/-- Different, where the small domains are single numbers. -/
def smallF (x : List Dm) : List Nat := (List.range x.length).filter fun i => decide (sizeF (dm x i) < x.length)
def critF (x : List Dm) : List Int := (smallF x).map fun i => leastF (dm x i)
def freeF (x : List Dm) (i : Nat) (v : Int) : Bool := (smallF x).all fun j => decide (j = i) || !decide (leastF (dm x j) = v)
def outF (x : List Dm) (i : Nat) (cr : List Int) : Dm := cr.foldl (fun o v => if memF (dm x i) v && !freeF x i v then minusF o (spanD v v) else o) (dm x i)
def isort (l : List Int) : List Int := l.foldr (fun x acc => (acc.takeWhile (· < x)) ++ x :: acc.dropWhile (· < x)) []
def difF (x : List Dm) : List Dm := (List.range x.length).map fun i => outF x i (isort (critF x))

def exC : Con := ⟨3, [0, 1], [], [], 0, 0, []⟩
def exP : List Con := [exC]
def exRu : Con → List Dm → List Dm := fun _ x => difF x
/-- Two domains, not two equal single numbers. -/
def exG (c : Con) (D : List Dm) : Bool := decide (c.kind = 3) && decide (c.vars = [0, 1]) && decide (D.length = 2) && okD D && !(decide (sizeF (dm D 0) < 2) && decide (sizeF (dm D 1) < 2) && decide (leastF (dm D 0) = leastF (dm D 1))) && (difF D).all fun d => decide (d.length ≤ 1000)
theorem ex_post : stF exRu exG exP 5 [[(0, 2)], [(0, 2)]] [] 0 = some ([[(0, 2)], [(0, 2)]], true) := by decide
theorem ex_label : fromN exRu exG exP [0, 1] 10 5 20 [[(0, 2)], [(0, 2)]] ⟨[], 100, false⟩ = some ⟨[[0, 1], [0, 2], [1, 0], [1, 2], [2, 0], [2, 1]], 90, false⟩ := by rfl
end Go.Proofs.YteiohgiecpibhaaGreat.Fdm
set_option linter.unusedVariables false
set_option linter.unusedSimpArgs false
namespace Go.Proofs.YteiohgiecpibhaaGreat.Fdm

/-- Rising spans with gaps, from lo on. -/
def Nr : Int → Dm → Prop
  | _, [] => True
  | lo, s :: d => lo ≤ s.1 ∧ s.1 ≤ s.2 ∧ Nr (s.2 + 2) d
theorem Nr.mono : ∀ {lo lo2 : Int} {d : Dm}, Nr lo d → lo2 ≤ lo → Nr lo2 d
  | _, _, [], _, _ => trivial
  | _, _, _ :: _, h, k => ⟨Int.le_trans k h.1, h.2⟩
theorem sp_zero (s : Sp) (d : Dm) : sp (s :: d) 0 = s := rfl
theorem sp_succ (s : Sp) (d : Dm) (i : Nat) : sp (s :: d) (i + 1) = sp d i := by simp [sp]
theorem nr_of : ∀ {lo : Int} (d : Dm), (0 < d.length → lo ≤ (sp d 0).1) → (∀ i, i < d.length → (sp d i).1 ≤ (sp d i).2) → (∀ i, i + 1 < d.length → (sp d i).2 + 2 ≤ (sp d (i + 1)).1) → Nr lo d
  | _, [], _, _, _ => trivial
  | lo, s :: d, h0, h1, h2 => by
    refine ⟨h0 (by simp), h1 0 (by simp), nr_of d (fun h => ?_) (fun i hi => ?_) (fun i hi => ?_)⟩
    · have := h2 0 (by simpa using h); rwa [sp_zero, sp_succ] at this
    · have := h1 (i + 1) (by simpa using hi); rwa [sp_succ] at this
    · have := h2 (i + 1) (by simpa using hi); rwa [sp_succ, sp_succ] at this
theorem nr_get : ∀ {lo : Int} {d : Dm}, Nr lo d → (∀ i, i < d.length → lo ≤ (sp d i).1 ∧ (sp d i).1 ≤ (sp d i).2) ∧ (∀ i, i + 1 < d.length → (sp d i).2 + 2 ≤ (sp d (i + 1)).1)
  | _, [], _ => ⟨fun i hi => absurd hi (Nat.not_lt_zero _), fun i hi => absurd hi (Nat.not_lt_zero _)⟩
  | lo, s :: d, ⟨a, b, c⟩ => by
    obtain ⟨p, q⟩ := nr_get c
    refine ⟨fun i hi => ?_, fun i hi => ?_⟩
    · cases i with
      | zero => exact ⟨a, b⟩
      | succ i => rw [sp_succ]; have := p i (by simpa using hi); omega
    · cases i with
      | zero => rw [sp_zero, sp_succ]; exact (p 0 (by simpa using hi)).1
      | succ i => rw [sp_succ, sp_succ]; exact q i (by simpa using hi)
def Up (d : Dm) : Prop := ∀ s ∈ d, s.2 ≤ 16384
theorem sp_mem {d : Dm} {i : Nat} (h : i < d.length) : sp d i ∈ d := by
  unfold sp; rw [List.getD_eq_getElem?_getD, List.getElem?_eq_getElem h]; exact List.getElem_mem h
theorem mem_sp {d : Dm} {s : Sp} (h : s ∈ d) : ∃ i, i < d.length ∧ sp d i = s := by
  obtain ⟨i, hi, rfl⟩ := List.getElem_of_mem h
  exact ⟨i, hi, by unfold sp; rw [List.getD_eq_getElem?_getD, List.getElem?_eq_getElem hi]; rfl⟩
theorem ok_nr {d : Dm} (h : Ok d) : Nr (-16384) d ∧ Up d := by
  refine ⟨nr_of d (fun h0 => (spanF_zero (h 0 h0)).1) (fun i hi => (spanF_zero (h i hi)).2.2.1) (fun i hi => ?_), fun s hs => ?_⟩
  · have := (spanF_zero (h (i + 1) hi)).2.2.2 (by omega); rw [Nat.add_sub_cancel] at this; omega
  · obtain ⟨i, hi, rfl⟩ := mem_sp hs; exact (spanF_zero (h i hi)).2.1
theorem nr_ok {d : Dm} (h : Nr (-16384) d) (u : Up d) : Ok d := fun i hi => by
  obtain ⟨p, q⟩ := nr_get h
  have a := p i hi
  have b := u _ (sp_mem hi)
  unfold spanF
  rw [if_neg (by omega), if_neg]
  rintro ⟨h0, k⟩
  have := q (i - 1) (by omega)
  rw [show i - 1 + 1 = i from by omega] at this
  omega
theorem mem_cons (s : Sp) (d : Dm) (v : Int) : memF (s :: d) v = true ↔ (s.1 ≤ v ∧ v ≤ s.2) ∨ memF d v = true := by simp [memF]
theorem mem_nil (v : Int) : memF [] v = false := rfl
theorem mem_app (d e : Dm) (v : Int) : memF (d ++ e) v = true ↔ memF d v = true ∨ memF e v = true := by simp [memF]
theorem mem_iff {d : Dm} {v : Int} : memF d v = true ↔ ∃ s ∈ d, s.1 ≤ v ∧ v ≤ s.2 := by simp [memF]
theorem nr_mem : ∀ {lo : Int} {d : Dm} {v : Int}, Nr lo d → memF d v = true → lo ≤ v
  | _, [], _, _, h => by simp [memF] at h
  | lo, s :: d, v, ⟨a, b, c⟩, h => by
    rcases (mem_cons s d v).1 h with h | h
    · omega
    · have := nr_mem c h; omega
theorem up_mem {d : Dm} {v : Int} (u : Up d) (h : memF d v = true) : v ≤ 16384 := by
  obtain ⟨s, hs, h⟩ := mem_iff.1 h
  have := u s hs; omega
theorem nr_ext : ∀ {lo : Int} {a b : Dm}, Nr lo a → Nr lo b → (∀ v, memF a v = true ↔ memF b v = true) → a = b
  | _, [], [], _, _, _ => rfl
  | _, [], t :: b, _, ⟨_, k, _⟩, h => by
    have := (h t.1).2 ((mem_cons _ _ _).2 (.inl ⟨Int.le_refl _, k⟩)); simp [memF] at this
  | _, s :: a, [], ⟨_, k, _⟩, _, h => by
    have := (h s.1).1 ((mem_cons _ _ _).2 (.inl ⟨Int.le_refl _, k⟩)); simp [memF] at this
  | lo, s :: a, t :: b, ⟨p1, p2, p3⟩, ⟨q1, q2, q3⟩, h => by
    have A : ∀ v, memF a v = true → s.2 + 2 ≤ v := fun v => nr_mem p3
    have B : ∀ v, memF b v = true → t.2 + 2 ≤ v := fun v => nr_mem q3
    have h' : ∀ v, ((s.1 ≤ v ∧ v ≤ s.2) ∨ memF a v = true) ↔ ((t.1 ≤ v ∧ v ≤ t.2) ∨ memF b v = true) := fun v => by
      rw [← mem_cons, ← mem_cons]; exact h v
    have e1 : s.1 = t.1 := by
      have x := (h' s.1).1 (.inl ⟨Int.le_refl _, p2⟩)
      have y := (h' t.1).2 (.inl ⟨Int.le_refl _, q2⟩)
      have x' : t.1 ≤ s.1 := by rcases x with x | x; omega; have := B _ x; omega
      have y' : s.1 ≤ t.1 := by rcases y with y | y; omega; have := A _ y; omega
      omega
    have e2 : s.2 = t.2 := by
      have x : ¬ s.2 < t.2 := fun hlt => by
        have := (h' (s.2 + 1)).2 (.inl ⟨by omega, by omega⟩)
        rcases this with z | z
        · omega
        · have := A _ z; omega
      have y : ¬ t.2 < s.2 := fun hlt => by
        have := (h' (t.2 + 1)).1 (.inl ⟨by omega, by omega⟩)
        rcases this with z | z
        · omega
        · have := B _ z; omega
      omega
    have e3 : a = b := nr_ext (lo := s.2 + 2) p3 (e2 ▸ q3) fun v => by
      constructor
      · intro m
        have := A v m
        rcases (h' v).1 (.inr m) with z | z
        · omega
        · exact z
      · intro m
        have := B v m
        rcases (h' v).2 (.inr m) with z | z
        · omega
        · exact z
    rw [e3, show s = t from Prod.ext e1 e2]
theorem ok_ext {a b : Dm} (ha : Ok a) (hb : Ok b) (h : ∀ v, -16384 ≤ v → v ≤ 16384 → (memF a v = true ↔ memF b v = true)) : a = b := by
  obtain ⟨a1, a2⟩ := ok_nr ha
  obtain ⟨b1, b2⟩ := ok_nr hb
  refine nr_ext a1 b1 fun v => ⟨fun m => (h v (nr_mem a1 m) (up_mem a2 m)).1 m, fun m => (h v (nr_mem b1 m) (up_mem b2 m)).2 m⟩
theorem nr_snoc : ∀ {lo : Int} {d : Dm} {s : Sp}, Nr lo d → (∀ t ∈ d, t.2 + 2 ≤ s.1) → lo ≤ s.1 → s.1 ≤ s.2 → Nr lo (d ++ [s])
  | _, [], s, _, _, h1, h2 => ⟨h1, h2, trivial⟩
  | lo, t :: d, s, ⟨a, b, c⟩, h, h1, h2 => ⟨a, b, nr_snoc c (fun u hu => h u (List.mem_cons_of_mem _ hu)) (h t (by simp)) h2⟩
theorem nr_init : ∀ {lo : Int} {d : Dm} {s : Sp}, Nr lo (d ++ [s]) → Nr lo d ∧ (∀ t ∈ d, t.2 + 2 ≤ s.1) ∧ lo ≤ s.1 ∧ s.1 ≤ s.2
  | _, [], s, ⟨a, b, _⟩ => ⟨trivial, fun t ht => by simp at ht, a, b⟩
  | lo, t :: d, s, ⟨a, b, c⟩ => by
    obtain ⟨p, q, r, u⟩ := nr_init c
    refine ⟨⟨a, b, p⟩, fun x hx => ?_, by omega, u⟩
    rcases List.mem_cons.1 hx with rfl | hx
    · omega
    · exact q x hx
/-- One number more, at the end. -/
def spnStep (out : Dm) (v : Int) : Dm := match out.getLast? with
  | some s => if s.2 + 1 = v then out.dropLast ++ [(s.1, v)] else out ++ [(v, v)]
  | none => [(v, v)]
def spnF (l : List Int) : Dm := l.foldl spnStep []
theorem spn_snoc (l : List Int) (v : Int) : spnF (l ++ [v]) = spnStep (spnF l) v := by simp [spnF]
theorem spnStep_nil (v : Int) : spnStep [] v = [(v, v)] := rfl
theorem spnStep_join (d : Dm) (s : Sp) (v : Int) (h : s.2 + 1 = v) : spnStep (d ++ [s]) v = d ++ [(s.1, v)] := by simp [spnStep, h]
theorem spnStep_more (d : Dm) (s : Sp) (v : Int) (h : s.2 + 1 ≠ v) : spnStep (d ++ [s]) v = d ++ [s] ++ [(v, v)] := by simp [spnStep, h]
/-- The spans of rising numbers. -/
structure SpnP (lo : Int) (l : List Int) (d : Dm) : Prop where
  nr : Nr lo d
  mem : ∀ v, memF d v = true ↔ v ∈ l
  last : ∀ v, l.getLast? = some v → ∃ e s, d = e ++ [s] ∧ s.2 = v
  nil : l = [] → d = []
theorem spn_ok : ∀ (n : Nat) (l : List Int), l.length = n → ∀ lo, List.Pairwise (· < ·) l → (∀ v ∈ l, lo ≤ v) → SpnP lo l (spnF l)
  | 0, l, hn, lo, _, _ => by
    obtain rfl := List.length_eq_zero_iff.1 hn
    exact ⟨trivial, fun v => by simp [spnF, memF], fun v h => by simp at h, fun _ => rfl⟩
  | n + 1, l, hn, lo, hp, hl => by
    have hne : l ≠ [] := by rintro rfl; simp at hn
    obtain ⟨l', v, rfl⟩ : ∃ l' v, l = l' ++ [v] := ⟨l.dropLast, l.getLast hne, (List.dropLast_concat_getLast hne).symm⟩
    have hn' : l'.length = n := by simpa using hn
    rw [List.pairwise_append] at hp
    have ih := spn_ok n l' hn' lo hp.1 (fun x hx => hl x (by simp [hx]))
    rw [spn_snoc]
    have lv : lo ≤ v := hl v (by simp)
    by_cases h0 : l' = []
    · subst h0
      rw [show spnF [] = [] from rfl, spnStep_nil]
      exact ⟨⟨lv, Int.le_refl _, trivial⟩, fun x => by simp [memF]; omega, fun x h => ⟨[], _, rfl, by simp at h; exact h⟩, fun h => by simp at h⟩
    · obtain ⟨l2, u, rfl⟩ : ∃ l2 u, l' = l2 ++ [u] := ⟨l'.dropLast, l'.getLast h0, (List.dropLast_concat_getLast h0).symm⟩
      obtain ⟨d, s, hd, hs⟩ := ih.last u (by simp)
      have huv : u < v := hp.2.2 u (by simp) v (by simp)
      rw [hd]
      have nr := ih.nr
      have mm := ih.mem
      rw [hd] at nr mm
      obtain ⟨n1, n2, n3, n4⟩ := nr_init nr
      by_cases hj : s.2 + 1 = v
      · rw [spnStep_join d s v hj]
        refine ⟨nr_snoc n1 n2 n3 (show s.1 ≤ v by omega), fun x => ?_, fun x h => ⟨d, _, rfl, by simp at h; exact h⟩, fun h => by simp at h⟩
        have m := mm x
        rw [mem_app, mem_cons] at m
        rw [mem_app, mem_cons]
        simp only [mem_nil, Bool.false_eq_true, or_false, List.mem_append, List.mem_singleton] at m ⊢
        constructor
        · rintro (h | h)
          · exact .inl (m.1 (.inl h))
          · by_cases q : x = v
            · exact .inr q
            · exact .inl (m.1 (.inr ⟨h.1, by have := h.2; omega⟩))
        · rintro (h | h)
          · rcases m.2 h with h | h
            · exact .inl h
            · exact .inr ⟨h.1, by have := h.2; omega⟩
          · exact .inr ⟨by omega, by omega⟩
      · rw [spnStep_more d s v hj]
        have hv : s.2 + 2 ≤ v := by omega
        refine ⟨nr_snoc nr (fun t ht => ?_) lv (Int.le_refl _), fun x => ?_, fun x h => ⟨d ++ [s], _, rfl, by simp at h; exact h⟩, fun h => by simp at h⟩
        · rcases List.mem_append.1 ht with ht | ht
          · have := n2 t ht; show t.2 + 2 ≤ v; omega
          · simp at ht; subst ht; exact hv
        · have m := mm x
          rw [mem_app, mem_cons, m]
          simp only [mem_nil, Bool.false_eq_true, or_false, List.mem_append, List.mem_singleton]
          constructor
          · rintro (h | h)
            · exact .inl h
            · exact .inr (by omega)
          · rintro (h | h)
            · exact .inl h
            · exact .inr ⟨by omega, by omega⟩
def rng : List Int := (List.range 32769).map fun (i : Nat) => (i : Int) - 16384
theorem mem_rng {v : Int} : v ∈ rng ↔ -16384 ≤ v ∧ v ≤ 16384 := by
  unfold rng
  rw [List.mem_map]
  constructor
  · rintro ⟨i, hi, rfl⟩; have := List.mem_range.1 hi; omega
  · rintro ⟨a, b⟩; exact ⟨(v + 16384).toNat, List.mem_range.2 (by omega), by omega⟩
theorem rng_up : List.Pairwise (· < ·) rng := by
  unfold rng
  rw [List.pairwise_map]
  exact List.pairwise_lt_range.imp fun h => by omega
/-- The spans of all numbers that are marked. -/
def pkF (p : Int → Bool) : Dm := spnF (rng.filter p)
theorem pk_of {R : List Int} (hu : List.Pairwise (· < ·) R) (hm : ∀ v, v ∈ R ↔ -16384 ≤ v ∧ v ≤ 16384) (p : Int → Bool) : Ok (spnF (R.filter p)) ∧ ∀ v, memF (spnF (R.filter p)) v = true ↔ (-16384 ≤ v ∧ v ≤ 16384) ∧ p v = true := by
  have h := spn_ok _ (R.filter p) rfl (-16384) (hu.filter p) (fun v hv => ((hm v).1 (List.mem_filter.1 hv).1).1)
  have m : ∀ v, memF (spnF (R.filter p)) v = true ↔ (-16384 ≤ v ∧ v ≤ 16384) ∧ p v = true := fun v => by
    rw [h.mem, List.mem_filter, hm]
  refine ⟨nr_ok h.nr fun s hs => ?_, m⟩
  obtain ⟨i, hi, rfl⟩ := mem_sp hs
  exact ((m _).1 (mem_iff.2 ⟨_, sp_mem hi, (nr_get h.nr).1 i hi |>.2, Int.le_refl _⟩)).1.2
theorem pk_ok (p : Int → Bool) : Ok (pkF p) ∧ ∀ v, memF (pkF p) v = true ↔ (-16384 ≤ v ∧ v ≤ 16384) ∧ p v = true := pk_of rng_up (fun v => mem_rng) p
theorem pk_eq {d : Dm} (h : Ok d) {p : Int → Bool} (hp : ∀ v, -16384 ≤ v → v ≤ 16384 → (memF d v = true ↔ p v = true)) : d = pkF p :=
  ok_ext h (pk_ok p).1 fun v h1 h2 => by rw [(pk_ok p).2, hp v h1 h2]; exact ⟨fun q => ⟨⟨h1, h2⟩, q⟩, fun q => q.2⟩

/-- Meeting. -/
theorem meet_nr : ∀ (f : Nat) (a b : Dm) (la lb : Int), Nr la a → Nr lb b → Nr (max la lb) (meetN f a b)
  | 0, _, _, _, _, _, _ => trivial
  | _ + 1, [], _, _, _, _, _ => trivial
  | _ + 1, _ :: _, [], _, _, _, _ => trivial
  | f + 1, s :: x, t :: y, la, lb, ⟨a1, a2, a3⟩, ⟨b1, b2, b3⟩ => by
    simp only [meetN]
    have key : Nr (min s.2 t.2 + 2) (if s.2 < t.2 then meetN f x (t :: y) else meetN f (s :: x) y) := by
      by_cases h : s.2 < t.2
      · rw [if_pos h]; exact (meet_nr f x (t :: y) (s.2 + 2) lb a3 ⟨b1, b2, b3⟩).mono (by omega)
      · rw [if_neg h]; exact (meet_nr f (s :: x) y la (t.2 + 2) ⟨a1, a2, a3⟩ b3).mono (by omega)
    by_cases h : max s.1 t.1 ≤ min s.2 t.2
    · rw [if_pos h]; exact ⟨by show max la lb ≤ max s.1 t.1; omega, h, key⟩
    · rw [if_neg h]
      show Nr _ (if s.2 < t.2 then meetN f x (t :: y) else meetN f (s :: x) y)
      by_cases h : s.2 < t.2
      · rw [if_pos h]; exact (meet_nr f x (t :: y) (s.2 + 2) lb a3 ⟨b1, b2, b3⟩).mono (by omega)
      · rw [if_neg h]; exact (meet_nr f (s :: x) y la (t.2 + 2) ⟨a1, a2, a3⟩ b3).mono (by omega)
theorem meet_mem : ∀ (f : Nat) (a b : Dm) (la lb : Int), a.length + b.length ≤ f → Nr la a → Nr lb b → ∀ v, memF (meetN f a b) v = true ↔ memF a v = true ∧ memF b v = true
  | 0, a, b, _, _, h, _, _ => fun v => by
    obtain rfl : a = [] := List.length_eq_zero_iff.1 (by omega)
    simp [meetN, memF]
  | _ + 1, [], _, _, _, _, _, _ => fun v => by simp [meetN, memF]
  | _ + 1, _ :: _, [], _, _, _, _, _ => fun v => by simp [meetN, memF]
  | f + 1, s :: x, t :: y, la, lb, hl, ⟨a1, a2, a3⟩, ⟨b1, b2, b3⟩ => fun v => by
    simp only [List.length_cons] at hl
    simp only [meetN]
    have X : memF x v = true → s.2 + 2 ≤ v := nr_mem a3
    have Y : memF y v = true → t.2 + 2 ≤ v := nr_mem b3
    have pc : memF (if max s.1 t.1 ≤ min s.2 t.2 then [(max s.1 t.1, min s.2 t.2)] else []) v = true ↔ (s.1 ≤ v ∧ v ≤ s.2) ∧ t.1 ≤ v ∧ v ≤ t.2 := by
      by_cases h : max s.1 t.1 ≤ min s.2 t.2
      · rw [if_pos h, mem_cons]; simp only [mem_nil, Bool.false_eq_true, or_false]; show (max s.1 t.1 ≤ v ∧ v ≤ min s.2 t.2) ↔ _; omega
      · rw [if_neg h]; simp only [mem_nil, Bool.false_eq_true, false_iff]; omega
    rw [mem_app, pc]
    by_cases h : s.2 < t.2
    · rw [if_pos h, meet_mem f x (t :: y) (s.2 + 2) lb (by simp; omega) a3 ⟨b1, b2, b3⟩ v, mem_cons, mem_cons]
      constructor
      · rintro (h | h)
        · exact ⟨.inl h.1, .inl h.2⟩
        · exact ⟨.inr h.1, h.2⟩
      · rintro ⟨h1 | h1, h2 | h2⟩
        · exact .inl ⟨h1, h2⟩
        · have := Y h2; omega
        · exact .inr ⟨h1, .inl h2⟩
        · exact .inr ⟨h1, .inr h2⟩
    · rw [if_neg h, meet_mem f (s :: x) y la (t.2 + 2) (by simp; omega) ⟨a1, a2, a3⟩ b3 v, mem_cons, mem_cons]
      constructor
      · rintro (h | h)
        · exact ⟨.inl h.1, .inl h.2⟩
        · exact ⟨h.1, .inr h.2⟩
      · rintro ⟨h1 | h1, h2 | h2⟩
        · exact .inl ⟨h1, h2⟩
        · exact .inr ⟨.inl h1, h2⟩
        · have := X h1; omega
        · exact .inr ⟨.inr h1, h2⟩
theorem meet_ok {a b : Dm} (ha : Ok a) (hb : Ok b) : Ok (meetF a b) ∧ ∀ v, memF (meetF a b) v = true ↔ memF a v = true ∧ memF b v = true := by
  obtain ⟨a1, a2⟩ := ok_nr ha
  obtain ⟨b1, b2⟩ := ok_nr hb
  have m := meet_mem (a.length + b.length) a b _ _ (Nat.le_refl _) a1 b1
  have n := meet_nr (a.length + b.length) a b _ _ a1 b1
  refine ⟨nr_ok (n.mono (by omega)) fun s hs => ?_, m⟩
  obtain ⟨i, hi, rfl⟩ := mem_sp hs
  exact up_mem a2 ((m _).1 (mem_iff.2 ⟨_, sp_mem hi, ((nr_get n).1 i hi).2, Int.le_refl _⟩)).1
end Go.Proofs.YteiohgiecpibhaaGreat.Fdm
set_option linter.unusedVariables false
set_option linter.unusedSimpArgs false
namespace Go.Proofs.YteiohgiecpibhaaGreat.Fdm

theorem nr_far {lo : Int} {b : Dm} (h : Nr lo b) : ∀ {i j : Nat}, i < j → j < b.length → (sp b i).2 + 2 ≤ (sp b j).1 := by
  obtain ⟨p, q⟩ := nr_get h
  intro i j hij
  induction j with
  | zero => omega
  | succ j ih =>
    intro hj
    by_cases e : i = j
    · subst e; exact q i hj
    · have := ih (by omega) (by omega); have := q j hj; have := (p j (by omega)).2; omega
theorem mem_at {b : Dm} {v : Int} : memF b v = true ↔ ∃ i, i < b.length ∧ (sp b i).1 ≤ v ∧ v ≤ (sp b i).2 := by
  rw [mem_iff]
  constructor
  · rintro ⟨s, hs, h⟩; obtain ⟨i, hi, rfl⟩ := mem_sp hs; exact ⟨i, hi, h⟩
  · rintro ⟨i, hi, h⟩; exact ⟨_, sp_mem hi, h⟩
theorem nr_end {lo : Int} {d : Dm} (h : Nr lo d) {t : Sp} (ht : t ∈ d) : memF d t.2 = true := by
  obtain ⟨i, hi, rfl⟩ := mem_sp ht
  exact mem_iff.2 ⟨_, sp_mem hi, ((nr_get h).1 i hi).2, Int.le_refl _⟩
structure CutP (b : Dm) (high lo : Int) (out : Dm) (low : Int) (r : Dm × Int × Nat) : Prop where
  nr : Nr lo r.1
  far : ∀ t ∈ r.1, t.2 + 2 ≤ r.2.1
  ge : low ≤ r.2.1
  mem : ∀ v, memF r.1 v = true ↔ memF out v = true ∨ (low ≤ v ∧ v < r.2.1 ∧ v ≤ high ∧ ¬ memF b v = true)
  rest : ∀ v, r.2.1 ≤ v → v ≤ high → ¬ memF b v = true
theorem cut_ok {b : Dm} {high lo lb : Int} (hb : Nr lb b) : ∀ (f k : Nat) (low : Int) (out : Dm), b.length - k ≤ f → (∀ i, i < k → i < b.length → (sp b i).2 < low) → Nr lo out → (∀ t ∈ out, t.2 + 2 ≤ low) → lo ≤ low → CutP b high lo out low (cutN b high f k low out) := by
  have stop : ∀ (k : Nat) (low : Int) (out : Dm), ¬ (k < b.length ∧ (sp b k).1 ≤ high) → (∀ i, i < k → i < b.length → (sp b i).2 < low) → Nr lo out → (∀ t ∈ out, t.2 + 2 ≤ low) → CutP b high lo out low (out, low, k) := fun k low out hs hk hn hf => by
    refine ⟨hn, hf, Int.le_refl _, fun v => ⟨.inl, ?_⟩, fun v h1 h2 h3 => ?_⟩
    · rintro (h | ⟨h1, h2, _⟩)
      · exact h
      · exact absurd (Int.lt_of_le_of_lt h1 h2) (Int.lt_irrefl _)
    · obtain ⟨i, hi, h4, h5⟩ := mem_at.1 h3
      have h1 : low ≤ v := h1
      by_cases q : i < k
      · have := hk i q hi; omega
      · by_cases e : i = k
        · subst e; exact hs ⟨hi, by omega⟩
        · have := nr_far hb (show k < i by omega) hi; have := ((nr_get hb).1 k (by omega)).2; exact hs ⟨by omega, by omega⟩
  intro f
  induction f with
  | zero => intro k low out hf hk hn hfar hlo; exact stop k low out (by omega) hk hn hfar
  | succ f ih =>
    intro k low out hf hk hn hfar hlo
    simp only [cutN]
    by_cases hc : k < b.length ∧ (sp b k).1 ≤ high
    · rw [if_pos hc]
      have hkk := ((nr_get hb).1 k hc.1).2
      by_cases hl : (sp b k).2 < low
      · rw [if_pos hl]
        exact ih (k + 1) low out (by omega) (fun i hi h2 => if e : i = k then e ▸ hl else hk i (by omega) h2) hn hfar hlo
      · rw [if_neg hl]
        have nb : ∀ v, low ≤ v → v ≤ (sp b k).2 → (memF b v = true ↔ (sp b k).1 ≤ v) := fun v h1 h2 => by
          constructor
          · intro hm
            obtain ⟨i, hi, h4, h5⟩ := mem_at.1 hm
            by_cases q : i < k
            · have := hk i q hi; omega
            · by_cases e : i = k
              · subst e; exact h4
              · have := nr_far hb (show k < i by omega) hi; omega
          · intro h3; exact mem_at.2 ⟨k, hc.1, h3, h2⟩
        have hk2 : ∀ i, i < k + 1 → i < b.length → (sp b i).2 < (sp b k).2 + 1 := fun i hi h2 => by
          by_cases e : i = k
          · subst e; omega
          · have := hk i (by omega) h2; omega
        by_cases hg : low < (sp b k).1
        · rw [if_pos hg]
          have I := ih (k + 1) ((sp b k).2 + 1) (out ++ [(low, (sp b k).1 - 1)]) (by omega) hk2 (nr_snoc hn hfar hlo (by show low ≤ (sp b k).1 - 1; omega)) (fun t ht => by
            rcases List.mem_append.1 ht with ht | ht
            · have := hfar t ht; omega
            · simp at ht; subst ht; show (sp b k).1 - 1 + 2 ≤ _; omega) (by omega)
          refine ⟨I.nr, I.far, by have := I.ge; omega, fun v => ?_, I.rest⟩
          rw [I.mem, mem_app, mem_cons]
          simp only [mem_nil, Bool.false_eq_true, or_false]
          have l2 := I.ge
          constructor
          · rintro ((h | h) | h)
            · exact .inl h
            · have h1 : low ≤ v := h.1
              have h2 : v ≤ (sp b k).1 - 1 := h.2
              exact .inr ⟨h1, by omega, by omega, fun m => by have := (nb v h1 (by omega)).1 m; omega⟩
            · exact .inr ⟨by omega, h.2⟩
          · rintro (h | ⟨h1, h2, h3, h4⟩)
            · exact .inl (.inl h)
            · by_cases q : v ≤ (sp b k).2
              · exact .inl (.inr ⟨h1, by have := mt (nb v h1 q).2 h4; show v ≤ (sp b k).1 - 1; omega⟩)
              · exact .inr ⟨by omega, h2, h3, h4⟩
        · rw [if_neg hg]
          have I := ih (k + 1) ((sp b k).2 + 1) out (by omega) hk2 hn (fun t ht => by have := hfar t ht; omega) (by omega)
          refine ⟨I.nr, I.far, by have := I.ge; omega, fun v => ?_, I.rest⟩
          rw [I.mem]
          have l2 := I.ge
          constructor
          · rintro (h | h)
            · exact .inl h
            · exact .inr ⟨by omega, h.2⟩
          · rintro (h | ⟨h1, h2, h3, h4⟩)
            · exact .inl h
            · by_cases q : v ≤ (sp b k).2
              · exact absurd ((nb v h1 q).2 (by omega)) h4
              · exact .inr ⟨by omega, h2, h3, h4⟩
    · rw [if_neg hc]; exact stop k low out hc hk hn hfar
theorem back_ok {b : Dm} {lb low : Int} (hb : Nr lb b) : ∀ k, k ≤ b.length → ∀ i, i < backK b low k → i < b.length → (sp b i).2 < low
  | 0, _, i, hi, _ => by simp [backK] at hi
  | k + 1, hk, i, hi, hl => by
    unfold backK at hi
    by_cases h : low ≤ (sp b k).2
    · rw [if_pos h] at hi; exact back_ok hb k (by omega) i hi hl
    · rw [if_neg h] at hi
      by_cases e : i = k
      · subst e; omega
      · have := nr_far hb (show i < k by omega) (by omega); have := ((nr_get hb).1 k (by omega)).2; omega
theorem cut_le (b : Dm) (high : Int) : ∀ (f k : Nat) (low : Int) (out : Dm), k ≤ b.length → (cutN b high f k low out).2.2 ≤ b.length
  | 0, _, _, _, h => h
  | f + 1, k, low, out, h => by
    simp only [cutN]
    by_cases hc : k < b.length ∧ (sp b k).1 ≤ high
    · rw [if_pos hc]
      by_cases hl : (sp b k).2 < low
      · rw [if_pos hl]; exact cut_le b high f _ _ _ (by omega)
      · rw [if_neg hl]; exact cut_le b high f _ _ _ (by omega)
    · rw [if_neg hc]; exact h
theorem backK_le2 (b : Dm) (low : Int) : ∀ k, backK b low k ≤ k
  | 0 => Nat.le_refl _
  | k + 1 => by unfold backK; split; exact Nat.le_succ_of_le (backK_le2 b low k); exact Nat.le_refl _
theorem less_ok {b : Dm} {lb lo : Int} (hb : Nr lb b) (s : Sp) (o : Dm × Nat) (hk : o.2 ≤ b.length) (hn : Nr lo o.1) (hf : ∀ t ∈ o.1, t.2 + 2 ≤ s.1) (h1 : lo ≤ s.1) (h2 : s.1 ≤ s.2) :
    Nr lo (lessS b s o).1 ∧ (lessS b s o).2 ≤ b.length ∧ (∀ t ∈ (lessS b s o).1, t.2 ≤ s.2) ∧ ∀ v, memF (lessS b s o).1 v = true ↔ memF o.1 v = true ∨ ((s.1 ≤ v ∧ v ≤ s.2) ∧ ¬ memF b v = true) := by
  have bl := backK_le2 b s.1 o.2
  have C := cut_ok (high := s.2) (lo := lo) hb (b.length - backK b s.1 o.2) (backK b s.1 o.2) s.1 o.1 (Nat.le_refl _) (back_ok hb o.2 hk) hn hf h1
  have L := cut_le b s.2 (b.length - backK b s.1 o.2) (backK b s.1 o.2) s.1 o.1 (by omega)
  have e : lessS b s o = (if (cutN b s.2 (b.length - backK b s.1 o.2) (backK b s.1 o.2) s.1 o.1).2.1 ≤ s.2 then (cutN b s.2 (b.length - backK b s.1 o.2) (backK b s.1 o.2) s.1 o.1).1 ++ [((cutN b s.2 (b.length - backK b s.1 o.2) (backK b s.1 o.2) s.1 o.1).2.1, s.2)] else (cutN b s.2 (b.length - backK b s.1 o.2) (backK b s.1 o.2) s.1 o.1).1, (cutN b s.2 (b.length - backK b s.1 o.2) (backK b s.1 o.2) s.1 o.1).2.2) := rfl
  rw [e]
  generalize cutN b s.2 (b.length - backK b s.1 o.2) (backK b s.1 o.2) s.1 o.1 = r at C L
  obtain ⟨r1, low, k⟩ := r
  have cl : s.1 ≤ low := C.ge
  have cm : ∀ v, memF r1 v = true ↔ memF o.1 v = true ∨ (s.1 ≤ v ∧ v < low ∧ v ≤ s.2 ∧ ¬ memF b v = true) := C.mem
  have cr : ∀ v, low ≤ v → v ≤ s.2 → ¬ memF b v = true := C.rest
  have om : ∀ v, memF o.1 v = true → v ≤ s.2 := fun v m => by
    obtain ⟨t, ht, h⟩ := mem_iff.1 m; have := hf t ht; omega
  have nr : Nr lo r1 := C.nr
  have ends : ∀ t ∈ r1, t.2 ≤ s.2 := fun t ht => by
    rcases (cm t.2).1 (nr_end nr ht) with h | h
    · exact om _ h
    · exact h.2.2.1
  show Nr lo (if low ≤ s.2 then r1 ++ [(low, s.2)] else r1) ∧ k ≤ b.length ∧ (∀ t ∈ (if low ≤ s.2 then r1 ++ [(low, s.2)] else r1), t.2 ≤ s.2) ∧ _
  by_cases q : low ≤ s.2
  · simp only [if_pos q]
    refine ⟨nr_snoc nr C.far (by show lo ≤ low; omega) q, L, fun t ht => ?_, fun v => ?_⟩
    · rcases List.mem_append.1 ht with ht | ht
      · exact ends t ht
      · simp at ht; subst ht; exact Int.le_refl _
    · rw [mem_app, mem_cons, cm]
      simp only [mem_nil, Bool.false_eq_true, or_false]
      constructor
      · rintro ((h | h) | h)
        · exact .inl h
        · exact .inr ⟨⟨h.1, h.2.2.1⟩, h.2.2.2⟩
        · have h1 : low ≤ v := h.1
          exact .inr ⟨⟨by omega, h.2⟩, cr v h1 h.2⟩
      · rintro (h | ⟨h, m⟩)
        · exact .inl (.inl h)
        · by_cases z : v < low
          · exact .inl (.inr ⟨h.1, z, h.2, m⟩)
          · exact .inr ⟨by show low ≤ v; omega, h.2⟩
  · simp only [if_neg q]
    refine ⟨nr, L, ends, fun v => ?_⟩
    rw [cm]
    constructor
    · rintro (h | h)
      · exact .inl h
      · exact .inr ⟨⟨h.1, h.2.2.1⟩, h.2.2.2⟩
    · rintro (h | ⟨h, m⟩)
      · exact .inl h
      · exact .inr ⟨h.1, by omega, h.2, m⟩
theorem take_mem (a : Dm) {n : Nat} (hn : n < a.length) (v : Int) : memF (a.take (n + 1)) v = true ↔ memF (a.take n) v = true ∨ ((sp a n).1 ≤ v ∧ v ≤ (sp a n).2) := by
  have e : a.take (n + 1) = a.take n ++ [sp a n] := by
    rw [List.take_add_one, List.getElem?_eq_getElem hn]
    simp only [Option.toList]
    congr 2
    unfold sp; rw [List.getD_eq_getElem?_getD, List.getElem?_eq_getElem hn]; rfl
  rw [e, mem_app, mem_cons]; simp [mem_nil]
theorem lessTo_ok {a b : Dm} {la lb : Int} (ha : Nr la a) (hb : Nr lb b) : ∀ n, n ≤ a.length →
    Nr la (lessTo a b n).1 ∧ (lessTo a b n).2 ≤ b.length ∧ (∀ t ∈ (lessTo a b n).1, 0 < n ∧ t.2 ≤ (sp a (n - 1)).2) ∧ ∀ v, memF (lessTo a b n).1 v = true ↔ memF (a.take n) v = true ∧ ¬ memF b v = true
  | 0, _ => ⟨trivial, Nat.zero_le _, fun t ht => by simp [lessTo] at ht, fun v => by simp [lessTo, memF]⟩
  | n + 1, hn => by
    obtain ⟨i1, i2, i3, i4⟩ := lessTo_ok ha hb n (by omega)
    have g := (nr_get ha).1 n (by omega)
    obtain ⟨l1, l2, l3, l4⟩ := less_ok hb (sp a n) (lessTo a b n) i2 i1 (fun t ht => by
      obtain ⟨h0, h⟩ := i3 t ht
      have := nr_far ha (show n - 1 < n by omega) (by omega); omega) g.1 g.2
    refine ⟨l1, l2, fun t ht => ⟨Nat.succ_pos _, by rw [Nat.add_sub_cancel]; exact l3 t ht⟩, fun v => ?_⟩
    rw [show lessTo a b (n + 1) = lessS b (sp a n) (lessTo a b n) from rfl, l4, i4, take_mem a (by omega)]
    constructor
    · rintro (⟨h, m⟩ | ⟨h, m⟩)
      · exact ⟨.inl h, m⟩
      · exact ⟨.inr h, m⟩
    · rintro ⟨h | h, m⟩
      · exact .inl ⟨h, m⟩
      · exact .inr ⟨h, m⟩
theorem minus_ok {a b : Dm} (ha : Ok a) (hb : Ok b) : Ok (minusF a b) ∧ ∀ v, memF (minusF a b) v = true ↔ memF a v = true ∧ ¬ memF b v = true := by
  obtain ⟨a1, a2⟩ := ok_nr ha
  obtain ⟨b1, b2⟩ := ok_nr hb
  obtain ⟨h1, _, _, h4⟩ := lessTo_ok a1 b1 a.length (Nat.le_refl _)
  rw [List.take_length] at h4
  exact ⟨nr_ok h1 fun s hs => up_mem a2 ((h4 _).1 (nr_end h1 hs)).1, h4⟩

/-- Joining. -/
def jnStep (out : Dm) (s : Sp) : Dm := match out.getLast? with
  | some t => if s.1 ≤ t.2 + 1 then out.dropLast ++ [(t.1, max t.2 s.2)] else out ++ [s]
  | none => [s]
def jnF (l : Dm) : Dm := l.foldl jnStep []
theorem jn_snoc (l : Dm) (s : Sp) : jnF (l ++ [s]) = jnStep (jnF l) s := by simp [jnF]
theorem jnStep_nil (s : Sp) : jnStep [] s = [s] := rfl
theorem jnStep_join (d : Dm) (t s : Sp) (h : s.1 ≤ t.2 + 1) : jnStep (d ++ [t]) s = d ++ [(t.1, max t.2 s.2)] := by simp [jnStep, h]
theorem jnStep_more (d : Dm) (t s : Sp) (h : ¬ s.1 ≤ t.2 + 1) : jnStep (d ++ [t]) s = d ++ [t] ++ [s] := by simp [jnStep, h]
theorem jn_ok (lo : Int) : ∀ (n : Nat) (l : Dm), l.length = n → List.Pairwise (fun x y : Sp => x.1 ≤ y.1) l → (∀ s ∈ l, lo ≤ s.1 ∧ s.1 ≤ s.2) →
    Nr lo (jnF l) ∧ (∀ v, memF (jnF l) v = true ↔ memF l v = true) ∧ ∀ t ∈ jnF l, ∃ u ∈ l, t.1 = u.1
  | 0, l, hn, _, _ => by
    obtain rfl := List.length_eq_zero_iff.1 hn
    exact ⟨trivial, fun v => Iff.rfl, fun t ht => by simp [jnF] at ht⟩
  | n + 1, l, hn, hp, hl => by
    have hne : l ≠ [] := by rintro rfl; simp at hn
    obtain ⟨l', s, rfl⟩ : ∃ l' s, l = l' ++ [s] := ⟨l.dropLast, l.getLast hne, (List.dropLast_concat_getLast hne).symm⟩
    rw [List.pairwise_append] at hp
    obtain ⟨i1, i2, i3⟩ := jn_ok lo n l' (by simpa using hn) hp.1 (fun x hx => hl x (by simp [hx]))
    have hs := hl s (by simp)
    have before : ∀ t ∈ jnF l', t.1 ≤ s.1 := fun t ht => by
      obtain ⟨u, hu, e⟩ := i3 t ht
      rw [e]; exact hp.2.2 u hu s (by simp)
    rw [jn_snoc]
    have mm : ∀ v, memF (l' ++ [s]) v = true ↔ memF (jnF l') v = true ∨ (s.1 ≤ v ∧ v ≤ s.2) := fun v => by rw [mem_app, mem_cons, i2]; simp [mem_nil]
    by_cases h0 : jnF l' = []
    · rw [h0] at mm ⊢
      rw [jnStep_nil]
      exact ⟨⟨hs.1, hs.2, trivial⟩, fun v => by rw [mm, mem_cons]; simp [mem_nil], fun t ht => ⟨s, by simp, by simp at ht; rw [ht]⟩⟩
    · obtain ⟨d, t, hd⟩ : ∃ d t, jnF l' = d ++ [t] := ⟨_, _, (List.dropLast_concat_getLast h0).symm⟩
      rw [hd] at i1 i2 i3 before mm ⊢
      obtain ⟨n1, n2, n3, n4⟩ := nr_init i1
      have bt := before t (by simp)
      by_cases hj : s.1 ≤ t.2 + 1
      · rw [jnStep_join d t s hj]
        refine ⟨nr_snoc n1 n2 n3 (by show t.1 ≤ max t.2 s.2; omega), fun v => ?_, fun x hx => ?_⟩
        · rw [mm, mem_app, mem_app, mem_cons, mem_cons]
          simp only [mem_nil, Bool.false_eq_true, or_false]
          show memF d v = true ∨ (t.1 ≤ v ∧ v ≤ max t.2 s.2) ↔ _
          constructor
          · rintro (h | h)
            · exact .inl (.inl h)
            · by_cases q : v ≤ t.2
              · exact .inl (.inr ⟨h.1, q⟩)
              · exact .inr ⟨by omega, by omega⟩
          · rintro ((h | h) | h)
            · exact .inl h
            · exact .inr ⟨h.1, by omega⟩
            · exact .inr ⟨by omega, by omega⟩
        · rcases List.mem_append.1 hx with hx | hx
          · obtain ⟨u, hu, e⟩ := i3 x (by simp [hx]); exact ⟨u, by simp [hu], e⟩
          · simp at hx; subst hx
            obtain ⟨u, hu, e⟩ := i3 t (by simp); exact ⟨u, by simp [hu], e⟩
      · rw [jnStep_more d t s hj]
        refine ⟨nr_snoc i1 (fun x hx => ?_) hs.1 hs.2, fun v => ?_, fun x hx => ?_⟩
        · rcases List.mem_append.1 hx with hx | hx
          · have := n2 x hx; omega
          · simp at hx; subst hx; omega
        · rw [mm, mem_app, mem_cons]; simp [mem_nil]
        · rcases List.mem_append.1 hx with hx | hx
          · obtain ⟨u, hu, e⟩ := i3 x hx; exact ⟨u, by simp [hu], e⟩
          · simp at hx; subst hx; exact ⟨x, by simp, rfl⟩
/-- Whatever order the spans with the same lower end are in. -/
theorem join_ok {a b l : Dm} (ha : Ok a) (hb : Ok b) (hp : l.Perm (a ++ b)) (hs : List.Pairwise (fun x y : Sp => x.1 ≤ y.1) l) :
    Ok (jnF l) ∧ ∀ v, memF (jnF l) v = true ↔ memF a v = true ∨ memF b v = true := by
  obtain ⟨a1, a2⟩ := ok_nr ha
  obtain ⟨b1, b2⟩ := ok_nr hb
  have bd : ∀ s ∈ l, -16384 ≤ s.1 ∧ s.1 ≤ s.2 := fun s h => by
    rcases List.mem_append.1 (hp.mem_iff.1 h) with h | h
    · obtain ⟨i, hi, rfl⟩ := mem_sp h; exact (nr_get a1).1 i hi
    · obtain ⟨i, hi, rfl⟩ := mem_sp h; exact (nr_get b1).1 i hi
  obtain ⟨h1, h2, _⟩ := jn_ok (-16384) l.length l rfl hs bd
  have m : ∀ v, memF (jnF l) v = true ↔ memF a v = true ∨ memF b v = true := fun v => by
    rw [h2, ← mem_app, mem_iff, mem_iff]
    exact ⟨fun ⟨s, h, k⟩ => ⟨s, hp.mem_iff.1 h, k⟩, fun ⟨s, h, k⟩ => ⟨s, hp.mem_iff.2 h, k⟩⟩
  refine ⟨nr_ok h1 fun s hs => ?_, m⟩
  rcases (m s.2).1 (nr_end h1 hs) with h | h
  · exact up_mem a2 h
  · exact up_mem b2 h

/-- The numbers of a set. -/
def upTo (s : Sp) : List Int := (List.range (s.2 - s.1 + 1).toNat).map fun (i : Nat) => s.1 + (i : Int)
def valsF (d : Dm) : List Int := d.flatMap upTo
theorem mem_upTo {s : Sp} {v : Int} : v ∈ upTo s ↔ s.1 ≤ v ∧ v ≤ s.2 := by
  unfold upTo
  rw [List.mem_map]
  constructor
  · rintro ⟨i, hi, rfl⟩; have := List.mem_range.1 hi; omega
  · rintro ⟨a, b⟩; exact ⟨(v - s.1).toNat, List.mem_range.2 (by omega), by omega⟩
theorem mem_vals {d : Dm} {v : Int} : v ∈ valsF d ↔ memF d v = true := by
  unfold valsF
  rw [List.mem_flatMap, mem_iff]
  exact ⟨fun ⟨s, h, k⟩ => ⟨s, h, mem_upTo.1 k⟩, fun ⟨s, h, k⟩ => ⟨s, h, mem_upTo.2 k⟩⟩
theorem size_cons (s : Sp) (d : Dm) : sizeF (s :: d) = (s.2 - s.1 + 1) + sizeF d := by
  unfold sizeF; rw [List.foldl_cons, sizeF_from]; show 0 + _ + sizeF d = _ + sizeF d; omega
theorem vals_len : ∀ {lo : Int} {d : Dm}, Nr lo d → ((valsF d).length : Int) = sizeF d
  | _, [], _ => rfl
  | lo, s :: d, ⟨a, b, c⟩ => by
    have ih := vals_len c
    rw [size_cons, ← ih]
    simp [valsF, upTo]
    omega
theorem vals_up : ∀ {lo : Int} {d : Dm}, Nr lo d → List.Pairwise (· < ·) (valsF d)
  | _, [], _ => List.Pairwise.nil
  | lo, s :: d, ⟨a, b, c⟩ => by
    have ih := vals_up c
    show List.Pairwise _ (upTo s ++ valsF d)
    rw [List.pairwise_append]
    refine ⟨?_, ih, fun x hx y hy => ?_⟩
    · unfold upTo; rw [List.pairwise_map]; exact List.pairwise_lt_range.imp fun h => by omega
    · have := (mem_upTo.1 hx).2; have := nr_mem c (mem_vals.1 hy); omega
theorem up_ext : ∀ {l m : List Int}, List.Pairwise (· < ·) l → List.Pairwise (· < ·) m → (∀ v, v ∈ l ↔ v ∈ m) → l = m
  | [], [], _, _, _ => rfl
  | [], y :: m, _, _, h => by have := (h y).2 (by simp); simp at this
  | x :: l, [], _, _, h => by have := (h x).1 (by simp); simp at this
  | x :: l, y :: m, h1, h2, h => by
    rw [List.pairwise_cons] at h1 h2
    have e : x = y := by
      have a := (h x).1 (by simp)
      have b := (h y).2 (by simp)
      rcases List.mem_cons.1 a with a | a
      · exact a
      · rcases List.mem_cons.1 b with b | b
        · exact b.symm
        · have := h1.1 y b; have := h2.1 x a; omega
    subst e
    rw [up_ext h1.2 h2.2 fun v => ?_]
    constructor
    · intro hv
      rcases List.mem_cons.1 ((h v).1 (List.mem_cons_of_mem _ hv)) with q | q
      · subst q; have := h1.1 v hv; omega
      · exact q
    · intro hv
      rcases List.mem_cons.1 ((h v).2 (List.mem_cons_of_mem _ hv)) with q | q
      · subst q; have := h2.1 v hv; omega
      · exact q
theorem vals_eq_of {R : List Int} (hu : List.Pairwise (· < ·) R) (hm : ∀ v, v ∈ R ↔ -16384 ≤ v ∧ v ≤ 16384) {d : Dm} (h : Ok d) : valsF d = R.filter (memF d) := by
  obtain ⟨n, u⟩ := ok_nr h
  refine up_ext (vals_up n) (hu.filter _) fun v => ?_
  rw [mem_vals, List.mem_filter, hm]
  exact ⟨fun m => ⟨⟨nr_mem n m, up_mem u m⟩, m⟩, fun m => m.2⟩
theorem filter_add (p q : Int → Bool) : ∀ R : List Int, (R.filter fun v => p v || q v).length + (R.filter fun v => p v && q v).length = (R.filter p).length + (R.filter q).length
  | [] => rfl
  | v :: R => by
    have ih := filter_add p q R
    cases hp : p v <;> cases hq : q v <;> simp [List.filter_cons, hp, hq] <;> omega
theorem filter_sub (p q : Int → Bool) : ∀ R : List Int, (R.filter fun v => p v && !q v).length + (R.filter fun v => p v && q v).length = (R.filter p).length
  | [] => rfl
  | v :: R => by
    have ih := filter_sub p q R
    cases hp : p v <;> cases hq : q v <;> simp [List.filter_cons, hp, hq] <;> omega
theorem size_eq_of {R : List Int} (hu : List.Pairwise (· < ·) R) (hm : ∀ v, v ∈ R ↔ -16384 ≤ v ∧ v ≤ 16384) {d : Dm} (h : Ok d) : sizeF d = ((R.filter (memF d)).length : Int) := by
  rw [← vals_len (ok_nr h).1, vals_eq_of hu hm h]
theorem sizes_add {a b j m : Dm} (ha : Ok a) (hb : Ok b) (hj : Ok j) (hm : Ok m) (ej : ∀ v, memF j v = true ↔ memF a v = true ∨ memF b v = true) (em : ∀ v, memF m v = true ↔ memF a v = true ∧ memF b v = true) : sizeF j + sizeF m = sizeF a + sizeF b := by
  obtain ⟨R, hR⟩ : ∃ R, R = rng := ⟨_, rfl⟩
  have hu : List.Pairwise (· < ·) R := hR ▸ rng_up
  have hr : ∀ v, v ∈ R ↔ -16384 ≤ v ∧ v ≤ 16384 := hR ▸ fun v => mem_rng
  rw [size_eq_of hu hr ha, size_eq_of hu hr hb, size_eq_of hu hr hj, size_eq_of hu hr hm]
  have q := filter_add (memF a) (memF b) R
  have e1 : memF j = fun v => memF a v || memF b v := funext fun v => by have := ej v; cases x : memF j v <;> cases y : memF a v <;> cases z : memF b v <;> simp_all
  have e2 : memF m = fun v => memF a v && memF b v := funext fun v => by have := em v; cases x : memF m v <;> cases y : memF a v <;> cases z : memF b v <;> simp_all
  rw [e1, e2]; omega
theorem sizes_sub {a b d m : Dm} (ha : Ok a) (hd : Ok d) (hm : Ok m) (ed : ∀ v, memF d v = true ↔ memF a v = true ∧ ¬ memF b v = true) (em : ∀ v, memF m v = true ↔ memF a v = true ∧ memF b v = true) : sizeF d + sizeF m = sizeF a := by
  obtain ⟨R, hR⟩ : ∃ R, R = rng := ⟨_, rfl⟩
  have hu : List.Pairwise (· < ·) R := hR ▸ rng_up
  have hr : ∀ v, v ∈ R ↔ -16384 ≤ v ∧ v ≤ 16384 := hR ▸ fun v => mem_rng
  rw [size_eq_of hu hr ha, size_eq_of hu hr hd, size_eq_of hu hr hm]
  have q := filter_sub (memF a) (memF b) R
  have e1 : memF d = fun v => memF a v && !memF b v := funext fun v => by have := ed v; cases x : memF d v <;> cases y : memF a v <;> cases z : memF b v <;> simp_all
  have e2 : memF m = fun v => memF a v && memF b v := funext fun v => by have := em v; cases x : memF m v <;> cases y : memF a v <;> cases z : memF b v <;> simp_all
  rw [e1, e2]; omega
theorem size_nil_iff {lo : Int} {d : Dm} (h : Nr lo d) : sizeF d = 0 ↔ d = [] := by
  cases d with
  | nil => exact ⟨fun _ => rfl, fun _ => rfl⟩
  | cons s d =>
    obtain ⟨a, b, c⟩ := h
    have := vals_len c
    rw [size_cons]
    constructor
    · intro; omega
    · intro h; cases h
end Go.Proofs.YteiohgiecpibhaaGreat.Fdm
