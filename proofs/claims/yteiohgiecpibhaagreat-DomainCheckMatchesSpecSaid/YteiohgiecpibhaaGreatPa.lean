/- Finite domains as lists of spans: the error of one, how many numbers it has, meeting, taking away. No program. -/
import Derived.WalkKit
set_option linter.unusedVariables false
set_option linter.unusedSimpArgs false
namespace Go.Proofs.YteiohgiecpibhaaGreat.Fdm

abbrev Sp := Int × Int
abbrev Dm := List Sp
def sp (d : Dm) (i : Nat) : Sp := d.getD i (0, 0)
/-- The error of a span. -/
def spanF (d : Dm) (i : Nat) : Int :=
  if (sp d i).1 < -16384 ∨ 16384 < (sp d i).2 ∨ (sp d i).2 < (sp d i).1 then 1
  else if 0 < i ∧ (sp d i).1 ≤ (sp d (i - 1)).2 + 1 then 2 else 0
def spansTo (d : Dm) : Nat → Int
  | 0 => 0
  | n + 1 => if spansTo d n ≠ 0 then spansTo d n else spanF d n
/-- The error of a domain. -/
def chkD (d : Dm) : Int := if 256 < d.length then 3 else if d.length = 0 then 15 else spansTo d d.length

theorem spansTo_stay {d : Dm} {k n : Nat} (h0 : spansTo d k = 0) (h : spanF d k ≠ 0) (hn : k < n) : spansTo d n = spanF d k := by
  obtain ⟨e, rfl⟩ : ∃ e, n = k + 1 + e := ⟨n - k - 1, by omega⟩
  clear hn
  induction e with
  | zero => show (if spansTo d k ≠ 0 then _ else _) = _; rw [if_neg (by rw [h0]; simp)]
  | succ e ih =>
    show (if spansTo d (k + 1 + e) ≠ 0 then spansTo d (k + 1 + e) else _) = _
    rw [if_pos (by rw [ih]; exact h), ih]
theorem spansTo_next {d : Dm} {k : Nat} (h0 : spansTo d k = 0) (h : spanF d k = 0) : spansTo d (k + 1) = 0 := by
  show (if spansTo d k ≠ 0 then _ else _) = _
  rw [if_neg (by rw [h0]; simp)]; exact h
theorem spansTo_prev {d : Dm} {k : Nat} (h : spansTo d (k + 1) = 0) : spansTo d k = 0 ∧ spanF d k = 0 := by
  have e : (if spansTo d k ≠ 0 then spansTo d k else spanF d k) = 0 := h
  by_cases q : spansTo d k = 0
  · rw [if_neg (by rw [q]; simp)] at e; exact ⟨q, e⟩
  · rw [if_pos q] at e; exact absurd e q
theorem spansTo_all {d : Dm} {n k : Nat} (h : spansTo d n = 0) (hk : k < n) : spanF d k = 0 := by
  induction n with
  | zero => omega
  | succ n ih =>
    have := spansTo_prev h
    by_cases e : k = n
    · subst e; exact this.2
    · exact ih this.1 (by omega)
theorem spanF_zero {d : Dm} {i : Nat} (h : spanF d i = 0) : -16384 ≤ (sp d i).1 ∧ (sp d i).2 ≤ 16384 ∧ (sp d i).1 ≤ (sp d i).2 ∧ (0 < i → (sp d (i - 1)).2 + 1 < (sp d i).1) := by
  unfold spanF at h
  by_cases q : (sp d i).1 < -16384 ∨ 16384 < (sp d i).2 ∨ (sp d i).2 < (sp d i).1
  · rw [if_pos q] at h; simp at h
  · rw [if_neg q] at h
    by_cases r : 0 < i ∧ (sp d i).1 ≤ (sp d (i - 1)).2 + 1
    · rw [if_pos r] at h; simp at h
    · exact ⟨by omega, by omega, by omega, fun h0 => by omega⟩

/-- How many numbers. -/
def sizeF (d : Dm) : Int := d.foldl (fun n s => n + (s.2 - s.1 + 1)) 0
def memF (d : Dm) (v : Int) : Bool := d.any fun s => decide (s.1 ≤ v) && decide (v ≤ s.2)
/-- The meet of what is left of two. -/
def meetN : Nat → Dm → Dm → Dm
  | 0, _, _ => []
  | _ + 1, [], _ => []
  | _ + 1, _ :: _, [] => []
  | f + 1, a :: x, b :: y =>
    (if max a.1 b.1 ≤ min a.2 b.2 then [(max a.1 b.1, min a.2 b.2)] else []) ++ (if a.2 < b.2 then meetN f x (b :: y) else meetN f (a :: x) y)
def meetF (a b : Dm) : Dm := meetN (a.length + b.length) a b
theorem meetN_enough : ∀ (f g : Nat) (a b : Dm), a.length + b.length ≤ f → a.length + b.length ≤ g → meetN f a b = meetN g a b
  | 0, g, a, b, h, _ => by
    have e : a = [] := List.length_eq_zero_iff.1 (by omega)
    subst e
    cases g <;> simp [meetN]
  | f + 1, 0, a, b, _, h => by
    have e : a = [] := List.length_eq_zero_iff.1 (by omega)
    subst e
    simp [meetN]
  | f + 1, g + 1, [], _, _, _ => by simp [meetN]
  | f + 1, g + 1, _ :: _, [], _, _ => by simp [meetN]
  | f + 1, g + 1, a :: x, b :: y, h1, h2 => by
    simp only [List.length_cons] at h1 h2
    simp only [meetN]
    rw [meetN_enough f g x (b :: y) (by simp; omega) (by simp; omega), meetN_enough f g (a :: x) y (by simp; omega) (by simp; omega)]
theorem meetF_nil_left (b : Dm) : meetF [] b = [] := by unfold meetF; cases ([] : Dm).length + b.length <;> simp [meetN]
theorem meetF_nil_right (a : Dm) : meetF a [] = [] := by
  unfold meetF
  cases a with
  | nil => simp [meetN]
  | cons a x => simp [meetN]
theorem meetF_cons (a b : Sp) (x y : Dm) : meetF (a :: x) (b :: y) =
    (if max a.1 b.1 ≤ min a.2 b.2 then [(max a.1 b.1, min a.2 b.2)] else []) ++ (if a.2 < b.2 then meetF x (b :: y) else meetF (a :: x) y) := by
  unfold meetF
  rw [show (a :: x).length + (b :: y).length = (x.length + y.length + 1) + 1 from by simp; omega]
  simp only [meetN]
  rw [meetN_enough (x.length + y.length + 1) (x.length + (b :: y).length) x (b :: y) (by simp; omega) (by simp),
    meetN_enough (x.length + y.length + 1) ((a :: x).length + y.length) (a :: x) y (by simp; omega) (by simp)]
theorem drop_sp {d : Dm} {i : Nat} (h : i < d.length) : d.drop i = sp d i :: d.drop (i + 1) := by
  rw [List.drop_eq_getElem_cons h]
  congr 1
  unfold sp
  rw [List.getD_eq_getElem?_getD, List.getElem?_eq_getElem h]; rfl
/-- A step of the meet. -/
theorem meet_step {a b : Dm} {i k : Nat} (hi : i < a.length) (hk : k < b.length) : meetF (a.drop i) (b.drop k) =
    (if max (sp a i).1 (sp b k).1 ≤ min (sp a i).2 (sp b k).2 then [(max (sp a i).1 (sp b k).1, min (sp a i).2 (sp b k).2)] else []) ++
    (if (sp a i).2 < (sp b k).2 then meetF (a.drop (i + 1)) (b.drop k) else meetF (a.drop i) (b.drop (k + 1))) := by
  rw [drop_sp hi, drop_sp hk, meetF_cons]
theorem meet_end {a b : Dm} {i k : Nat} (h : a.length ≤ i ∨ b.length ≤ k) : meetF (a.drop i) (b.drop k) = [] := by
  rcases h with h | h
  · rw [List.drop_eq_nil_of_le h]; exact meetF_nil_left _
  · rw [List.drop_eq_nil_of_le h]; exact meetF_nil_right _

/-- Back to the first span that may reach up to low. -/
def backK (b : Dm) (low : Int) : Nat → Nat
  | 0 => 0
  | k + 1 => if low ≤ (sp b k).2 then backK b low k else k + 1
/-- What a span is cut into by the spans from k on: (out, low, k). -/
def cutN (b : Dm) (high : Int) : Nat → Nat → Int → Dm → Dm × Int × Nat
  | 0, k, low, out => (out, low, k)
  | f + 1, k, low, out =>
    if k < b.length ∧ (sp b k).1 ≤ high then
      if (sp b k).2 < low then cutN b high f (k + 1) low out
      else cutN b high f (k + 1) ((sp b k).2 + 1) (if low < (sp b k).1 then out ++ [(low, (sp b k).1 - 1)] else out)
    else (out, low, k)
def cutF (b : Dm) (high : Int) (k : Nat) (low : Int) (out : Dm) : Dm × Int × Nat := cutN b high (b.length - k) k low out
theorem cutF_step {b : Dm} {high : Int} {k : Nat} {low : Int} {out : Dm} (hk : k < b.length) (h : (sp b k).1 ≤ high) :
    cutF b high k low out = if (sp b k).2 < low then cutF b high (k + 1) low out else cutF b high (k + 1) ((sp b k).2 + 1) (if low < (sp b k).1 then out ++ [(low, (sp b k).1 - 1)] else out) := by
  unfold cutF
  rw [show b.length - k = (b.length - (k + 1)) + 1 from by omega]
  simp only [cutN]
  rw [if_pos ⟨hk, h⟩]
theorem cutF_end {b : Dm} {high : Int} {k : Nat} {low : Int} {out : Dm} (h : ¬ (k < b.length ∧ (sp b k).1 ≤ high)) : cutF b high k low out = (out, low, k) := by
  unfold cutF
  cases e : b.length - k with
  | zero => rfl
  | succ f => simp only [cutN]; rw [if_neg h]
/-- One span less the others. -/
def lessS (b : Dm) (s : Sp) (o : Dm × Nat) : Dm × Nat :=
  let r := cutF b s.2 (backK b s.1 o.2) s.1 o.1
  (if r.2.1 ≤ s.2 then r.1 ++ [(r.2.1, s.2)] else r.1, r.2.2)
def lessTo (a b : Dm) : Nat → Dm × Nat
  | 0 => ([], 0)
  | n + 1 => lessS b (sp a n) (lessTo a b n)
def minusF (a b : Dm) : Dm := (lessTo a b a.length).1
def spanD (low high : Int) : Dm := if high < low then [] else [(low, high)]
def fixedF (d : Dm) : Bool := decide (d.length = 1) && decide ((sp d 0).1 = (sp d 0).2)
def leastF (d : Dm) : Int := (sp d 0).1

theorem sizeF_from (d : Dm) (m : Int) : d.foldl (fun n s => n + (s.2 - s.1 + 1)) m = m + sizeF d := by
  induction d generalizing m with
  | nil => simp [sizeF]
  | cons s d ih => simp only [sizeF, List.foldl_cons]; rw [ih, ih (0 + _)]; omega
def sizeTo (d : Dm) (k : Nat) : Int := sizeF (d.take k)
theorem sizeTo_next {d : Dm} {k : Nat} (h : k < d.length) : sizeTo d (k + 1) = sizeTo d k + ((sp d k).2 - (sp d k).1 + 1) := by
  unfold sizeTo
  rw [List.take_add_one, List.getElem?_eq_getElem h]
  simp only [Option.toList, sizeF, List.foldl_append, List.foldl_cons, List.foldl_nil]
  congr 2
  all_goals unfold sp; rw [List.getD_eq_getElem?_getD, List.getElem?_eq_getElem h]; rfl
theorem sizeTo_all (d : Dm) : sizeTo d d.length = sizeF d := by unfold sizeTo; rw [List.take_length]
/-- Rising spans within the bounds. -/
def Ok (d : Dm) : Prop := ∀ i, i < d.length → spanF d i = 0
theorem ok_of_chk {d : Dm} (h : chkD d = 0) : Ok d ∧ d.length ≤ 256 ∧ 0 < d.length := by
  unfold chkD at h
  by_cases a : 256 < d.length
  · rw [if_pos a] at h; simp at h
  · rw [if_neg a] at h
    by_cases b : d.length = 0
    · rw [if_pos b] at h; simp at h
    · rw [if_neg b] at h
      exact ⟨fun i hi => spansTo_all h hi, by omega, by omega⟩
theorem spansTo_ok {d : Dm} (h : Ok d) : ∀ n, n ≤ d.length → spansTo d n = 0
  | 0, _ => rfl
  | n + 1, hn => spansTo_next (spansTo_ok h n (by omega)) (h n (by omega))
theorem ok_sizeTo {d : Dm} (h : Ok d) : ∀ k, k ≤ d.length → 0 ≤ sizeTo d k ∧ (0 < k → sizeTo d k ≤ (sp d (k - 1)).2 + 16385)
  | 0, _ => ⟨by simp [sizeTo, sizeF], fun q => absurd q (Nat.lt_irrefl _)⟩
  | k + 1, hk => by
    have ih := ok_sizeTo h k (by omega)
    have z := spanF_zero (h k (by omega))
    rw [sizeTo_next (by omega)]
    refine ⟨by omega, fun _ => ?_⟩
    rw [Nat.add_sub_cancel]
    by_cases q : k = 0
    · subst q; have := z.1; simp [sizeTo, sizeF]; omega
    · have i2 := ih.2 (by omega)
      have z4 := z.2.2.2 (by omega)
      omega
end Go.Proofs.YteiohgiecpibhaaGreat.Fdm
