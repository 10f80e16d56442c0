/- Rows, their solutions, the end of a sum over these; the problem that rows begin with. No program. -/
import Derived.Test.YtijdglogadnbcaaZ24
import Derived.Test.YtijdglogadnbcaaZ14
set_option linter.unusedVariables false
set_option linter.unusedSimpArgs false
set_option maxRecDepth 100000
set_option maxHeartbeats 40000000
namespace Go.Proofs.Ytijdglogadnbcaa.Bl
open Go.RowKit Nt
/-- A row: coefficients, relation, bound. -/
structure Ln where
 co : Nat → Rat
 rel : Int
 bd : Rat
def val (n : Nat) (c x : Nat → Rat) : Rat := sm n fun j => c j * x j
def Ln.ok (r : Ln) (n : Nat) (x : Nat → Rat) : Prop := if r.rel = 1 then val n r.co x ≤ r.bd else if r.rel = 2 then val n r.co x < r.bd else val n r.co x = r.bd
def Sol (l : List Ln) (n : Nat) (x : Nat → Rat) : Prop := ∀ r, r ∈ l → r.ok n x
/-- The upper end of f over S: none: there is none; with true: it is reached. -/
def IsSup (S : (Nat → Rat) → Prop) (f : (Nat → Rat) → Rat) : Option (Rat × Bool) → Prop
 | none => ∀ M, ∃ x, S x ∧ M ≤ f x
 | some (a, reached) => (∀ x, S x → f x ≤ a) ∧ (if reached = true then ∃ x, S x ∧ f x = a else ∀ x, S x → f x < a) ∧ ∀ d, 0 < d → ∃ x, S x ∧ a - d < f x
theorem IsSup.unique {S : (Nat → Rat) → Prop} {f : (Nat → Rat) → Rat} {u v : Option (Rat × Bool)} (h : IsSup S f u) (k : IsSup S f v) : u = v := by
 have ne : ∀ {a : Rat} {r : Bool}, IsSup S f none → IsSup S f (some (a, r)) → False := fun {a r} h k => by
  obtain ⟨x, hx, hm⟩ := h (a + 1)
  have := k.1 x hx
  grind
 cases u with
 | none =>
  cases v with
  | none => rfl
  | some y => exact (ne h k).elim
 | some y =>
  obtain ⟨a, r⟩ := y
  cases v with
  | none => exact (ne k h).elim
  | some y =>
   obtain ⟨b, s⟩ := y
   obtain ⟨h1, h2, h3⟩ := h
   obtain ⟨k1, k2, k3⟩ := k
   have e : a = b := by
    have l1 : ¬ a < b := fun q => by
     obtain ⟨x, hx, hm⟩ := k3 (b - a) (by grind)
     have := h1 x hx
     grind
    have l2 : ¬ b < a := fun q => by
     obtain ⟨x, hx, hm⟩ := h3 (a - b) (by grind)
     have := k1 x hx
     grind
    grind
   subst e
   cases r <;> cases s
   ·rfl
   ·simp only [Bool.false_eq_true, if_false, if_true] at h2 k2
    obtain ⟨x, hx, e⟩ := k2
    have := h2 x hx
    exfalso; grind
   ·simp only [Bool.false_eq_true, if_false, if_true] at h2 k2
    obtain ⟨x, hx, e⟩ := h2
    have := k2 x hx
    exfalso; grind
   ·rfl
theorem IsSup.congr {S S' : (Nat → Rat) → Prop} {f f' : (Nat → Rat) → Rat} {u : Option (Rat × Bool)} (h : IsSup S f u) (hs : ∀ x, S x ↔ S' x) (hf : ∀ x, f x = f' x) : IsSup S' f' u := by
 have e1 : S = S' := funext fun x => propext (hs x)
 have e2 : f = f' := funext hf
 rw [← e1, ← e2]; exact h
def Ln.hi (r : Ln) : V := ⟨r.bd, if r.rel = 2 then -1 else 0⟩
def Ln.lo (r : Ln) : Option V := if r.rel = 1 ∨ r.rel = 2 then none else some ⟨r.bd, 0⟩
/-- The problem of rows and of a goal. -/
def Pb0 (l : List Ln) (n : Nat) (go : Nat → Rat) : Pb where
 n := n
 m := l.length + 1
 low v := if v < n then none else (l[v - n]?).bind Ln.lo
 high v := if v < n then none else (l[v - n]?).map Ln.hi
 now _ := ⟨0, 0⟩
 basic i := n + i
 free k := k
 T i k := match l[i]? with | some r => r.co k | none => go k
theorem Pb0.T_row {l : List Ln} {n : Nat} {go : Nat → Rat} {i : Nat} (hi : i < l.length) (k : Nat) : (Pb0 l n go).T i k = (l[i]).co k := by
 show (match l[i]? with | some r => r.co k | none => go k) = _
 rw [List.getElem?_eq_getElem hi]
theorem Pb0.T_go {l : List Ln} {n : Nat} {go : Nat → Rat} (k : Nat) : (Pb0 l n go).T l.length k = go k := by
 show (match l[l.length]? with | some r => r.co k | none => go k) = _
 rw [List.getElem?_eq_none (Nat.le_refl _)]
theorem Pb0.pl (l : List Ln) (n : Nat) (go : Nat → Rat) : (Pb0 l n go).Pl := by
 have b : ∀ i, (Pb0 l n go).basic i = n + i := fun _ => rfl
 have f : ∀ k, (Pb0 l n go).free k = k := fun _ => rfl
 have en : (Pb0 l n go).n = n := rfl
 have em : (Pb0 l n go).m = l.length + 1 := rfl
 refine ⟨fun i hi => ?_, fun k hk => ?_, fun i j hi hj e => ?_, fun i j hi hj e => ?_, fun i k hi hk => ?_, fun v hv => ?_⟩
 ·rw [b, en, em]; omega
 ·rw [f, en, em]; omega
 ·rw [b, b] at e; omega
 ·rw [f, f] at e; exact e
 ·rw [b, f]; omega
 ·by_cases h : v < n
  ·exact Or.inr ⟨v, h, rfl⟩
  ·exact Or.inl ⟨v - n, by omega, by rw [b]; omega⟩
theorem Pb0.mid (l : List Ln) (n : Nat) (go : Nat → Rat) : Mid (Pb0 l n go) l.length (Pb0 l n go) := by
 refine ⟨Kin.refl _, ⟨Pb0.pl l n go, ⟨?_, ?_⟩, fun k hk => ?_, fun v x y hx hy => ?_⟩, fun k hk => Or.inr (Or.inr rfl), Nat.lt_succ_self _, ?_, ?_, ?_⟩
 ·intro i hi; symm; exact sm_zero fun k hk => by show _ * (0 : Rat) = 0; grind
 ·intro i hi; symm; exact sm_zero fun k hk => by show _ * (0 : Rat) = 0; grind
 ·have hk : k < n := hk
  refine ⟨fun u hu => ?_, fun u hu => ?_⟩
  ·have hu : (if k < n then none else (l[k - n]?).bind Ln.lo) = some u := hu
   rw [if_pos hk] at hu; simp at hu
  ·have hu : (if k < n then none else (l[k - n]?).map Ln.hi) = some u := hu
   rw [if_pos hk] at hu; simp at hu
 ·have hx : (if v < n then none else (l[v - n]?).bind Ln.lo) = some x := hx
  have hy : (if v < n then none else (l[v - n]?).map Ln.hi) = some y := hy
  split at hx
  ·simp at hx
  ·rename_i q
   rw [if_neg q] at hy
   cases e : l[v - n]? with
   | none => rw [e] at hx; simp at hx
   | some r =>
    rw [e] at hx hy
    simp only [Option.bind_some, Option.map_some, Option.some.injEq, Ln.lo] at hx hy
    split at hx
    ·simp at hx
    ·rename_i q2
     cases hx
     subst hy
     unfold Ln.hi V.le
     rw [if_neg (fun e => q2 (Or.inr e))]
     simp only
     exact Or.inr ⟨trivial, Rat.le_refl⟩
 ·show n + l.length = n + (l.length + 1) - 1; omega
 ·show (if n + (l.length + 1) - 1 < n then none else (l[n + (l.length + 1) - 1 - n]?).bind Ln.lo) = none
  rw [if_neg (by omega), List.getElem?_eq_none (by omega)]; rfl
 ·show (if n + (l.length + 1) - 1 < n then none else (l[n + (l.length + 1) - 1 - n]?).map Ln.hi) = none
  rw [if_neg (by omega), List.getElem?_eq_none (by omega)]; rfl
/-- Numbers as values of all variables. -/
def vec (l : List Ln) (n : Nat) (go x : Nat → Rat) (v : Nat) : Rat := if v < n then x v else sm n fun k => (Pb0 l n go).T (v - n) k * x k
theorem vec_tw (l : List Ln) (n : Nat) (go x : Nat → Rat) : (Pb0 l n go).TW (vec l n go x) := by
 intro i hi
 show vec l n go x (n + i) = sm n fun k => (Pb0 l n go).T i k * vec l n go x k
 unfold vec
 rw [if_neg (by omega), show n + i - n = i from by omega]
 exact sm_congr fun k hk => by rw [if_pos hk]
theorem vec_lt {l : List Ln} {n : Nat} {go x : Nat → Rat} {v : Nat} (h : v < n) : vec l n go x v = x v := if_pos h
theorem vec_row {l : List Ln} {n : Nat} {go x : Nat → Rat} {i : Nat} (h : i < l.length) : vec l n go x (n + i) = val n (l[i]).co x := by
 unfold vec val
 rw [if_neg (by omega), show n + i - n = i from by omega]
 exact sm_congr fun k hk => by rw [Pb0.T_row h]
theorem vec_go {l : List Ln} {n : Nat} {go x : Nat → Rat} : vec l n go x (n + (l.length + 1) - 1) = val n go x := by
 unfold vec val
 rw [if_neg (by omega), show n + (l.length + 1) - 1 - n = l.length from by omega]
 exact sm_congr fun k hk => by rw [Pb0.T_go]
theorem TW.eq_vec {l : List Ln} {n : Nat} {go y : Nat → Rat} (h : (Pb0 l n go).TW y) {v : Nat} (hv : v < n + (l.length + 1)) : y v = vec l n go y v := by
 unfold vec
 split
 ·rfl
 ·obtain ⟨i, rfl⟩ : ∃ i, v = n + i := ⟨v - n, by omega⟩
  rw [show n + i - n = i from by omega]
  exact h i (by show i < l.length + 1; omega)
theorem sol_in {l : List Ln} {n : Nat} {go x : Nat → Rat} (h : Sol l n x) : (Pb0 l n go).TV (fun v => ⟨vec l n go x v, 0⟩) ∧ ∀ v, v < (Pb0 l n go).n + (Pb0 l n go).m → inR (Pb0 l n go).low (Pb0 l n go).high v ⟨vec l n go x v, 0⟩ := by
 refine ⟨⟨vec_tw l n go x, ?_⟩, fun v hv => ?_⟩
 ·intro i hi; symm; exact sm_zero fun k hk => by show _ * (0 : Rat) = 0; grind
 ·have hv : v < n + (l.length + 1) := hv
  by_cases c : v < n
  ·exact ⟨fun u hu => by (have hu : (if v < n then none else (l[v - n]?).bind Ln.lo) = some u := hu; rw [if_pos c] at hu; simp at hu), fun u hu => by (have hu : (if v < n then none else (l[v - n]?).map Ln.hi) = some u := hu; rw [if_pos c] at hu; simp at hu)⟩
  ·obtain ⟨i, rfl⟩ : ∃ i, v = n + i := ⟨v - n, by omega⟩
   have ei : n + i - n = i := by omega
   by_cases c2 : i < l.length
   ·have ok := h _ (List.getElem_mem c2)
    rw [vec_row c2]
    unfold Ln.ok at ok
    refine ⟨fun u hu => ?_, fun u hu => ?_⟩
    ·have hu : (if n + i < n then none else (l[n + i - n]?).bind Ln.lo) = some u := hu
     rw [if_neg c, ei, List.getElem?_eq_getElem c2] at hu
     simp only [Option.bind_some, Ln.lo] at hu
     split at hu
     ·simp at hu
     ·rename_i q
      cases hu
      rw [if_neg (fun e => q (Or.inl e)), if_neg (fun e => q (Or.inr e))] at ok
      rw [ok]; exact V.le_refl _
    ·have hu : (if n + i < n then none else (l[n + i - n]?).map Ln.hi) = some u := hu
     rw [if_neg c, ei, List.getElem?_eq_getElem c2] at hu
     simp only [Option.map_some, Option.some.injEq] at hu
     subst hu
     unfold Ln.hi V.le
     simp only
     by_cases r1 : l[i].rel = 1
     ·rw [if_pos r1] at ok
      rw [if_neg (show ¬ l[i].rel = 2 by omega)]
      grind
     ·rw [if_neg r1] at ok
      by_cases r2 : l[i].rel = 2
      ·rw [if_pos r2] at ok; exact Or.inl ok
      ·rw [if_neg r2] at ok
       rw [if_neg r2, ok]
       exact Or.inr ⟨rfl, Rat.le_refl⟩
   ·refine ⟨fun u hu => ?_, fun u hu => ?_⟩
    ·have hu : (if n + i < n then none else (l[n + i - n]?).bind Ln.lo) = some u := hu
     rw [if_neg c, ei, List.getElem?_eq_none (by omega)] at hu; simp at hu
    ·have hu : (if n + i < n then none else (l[n + i - n]?).map Ln.hi) = some u := hu
     rw [if_neg c, ei, List.getElem?_eq_none (by omega)] at hu; simp at hu
theorem eps_lt {a b : Rat} (s : Rat) (h : a < b) : ∃ e, 0 < e ∧ ∀ t, 0 < t → t ≤ e → a + t * s < b := by
 by_cases hs : s ≤ 0
 ·refine ⟨1, by grind, fun t h0 _ => ?_⟩
  have := Rat.mul_nonneg (Rat.le_of_lt h0) (show 0 ≤ -s by grind)
  grind
 ·have ii : (s + 1) * (1 / (s + 1)) = 1 := by grind
  have ip : 0 < 1 / (s + 1) := by
   refine Classical.byContradiction fun q => ?_
   have := Rat.mul_nonneg (show 0 ≤ s + 1 by grind) (show 0 ≤ -(1 / (s + 1)) by grind)
   grind
  have ep := Rat.mul_pos (show 0 < b - a by grind) ip
  refine ⟨(b - a) * (1 / (s + 1)), ep, fun t h0 ht => ?_⟩
  have m := Rat.mul_nonneg (show 0 ≤ (b - a) * (1 / (s + 1)) - t by grind) (show 0 ≤ s by grind)
  have e : (b - a) * (1 / (s + 1)) * (s + 1) = b - a := by
   have : (b - a) * (1 / (s + 1)) * (s + 1) = (b - a) * ((s + 1) * (1 / (s + 1))) := by grind
   rw [this, ii]; grind
  grind
theorem eps_all {φ : Nat → Rat → Prop} : ∀ {m : Nat}, (∀ i, i < m → ∃ e, 0 < e ∧ ∀ t, 0 < t → t ≤ e → φ i t) → ∃ e, 0 < e ∧ ∀ t, 0 < t → t ≤ e → ∀ i, i < m → φ i t
 | 0, _ => ⟨1, by grind, fun t _ _ i hi => by omega⟩
 | m + 1, h => by
  obtain ⟨e1, p1, h1⟩ := eps_all (m := m) fun i hi => h i (by omega)
  obtain ⟨e2, p2, h2⟩ := h m (by omega)
  have both : ∀ t, 0 < t → t ≤ e1 → t ≤ e2 → ∀ i, i < m + 1 → φ i t := fun t t0 t1 t2 i hi => by
   rcases Nat.lt_succ_iff_lt_or_eq.1 hi with q | q
   ·exact h1 t t0 t1 i q
   ·rw [q]; exact h2 t t0 t2
  by_cases c : e1 ≤ e2
  ·exact ⟨e1, p1, fun t t0 t1 => both t t0 t1 (by grind)⟩
  ·exact ⟨e2, p2, fun t t0 t1 => both t t0 (by grind) t1⟩
theorem val_lin (n : Nat) (c : Nat → Rat) (y : Nat → V) (t : Rat) : val n c (fun j => (y j).m + t * (y j).s) = val n c (fun j => (y j).m) + t * val n c fun j => (y j).s := by
 unfold val
 rw [← sm_mul, ← sm_add]
 exact sm_congr fun j _ => by grind
/-- Values in all ranges: solutions near by. -/
theorem in_sol {l : List Ln} {n : Nat} {go : Nat → Rat} {y : Nat → V} (ty : (Pb0 l n go).TV y) (hy : ∀ v, v < (Pb0 l n go).n + (Pb0 l n go).m → inR (Pb0 l n go).low (Pb0 l n go).high v (y v)) :
  ∃ e, 0 < e ∧ ∀ t, 0 < t → t ≤ e → Sol l n (fun j => (y j).m + t * (y j).s) := by
 have row : ∀ i, (hi : i < l.length) → (y (n + i)).m = val n (l[i]).co (fun j => (y j).m) ∧ (y (n + i)).s = val n (l[i]).co fun j => (y j).s := fun i hi => by
  have a := TW.eq_vec ty.1 (v := n + i) (by omega)
  have b := TW.eq_vec ty.2 (v := n + i) (by omega)
  rw [vec_row hi] at a b
  exact ⟨a, b⟩
 obtain ⟨e, ep, he⟩ := eps_all (m := l.length) (φ := fun i t => ∀ hi : i < l.length, (l[i]).ok n fun j => (y j).m + t * (y j).s) fun i hi => by
  obtain ⟨r1, r2⟩ := row i hi
  have inr := hy (n + i) (by show n + i < n + (l.length + 1); omega)
  have h1 : (Pb0 l n go).low (n + i) = (l[i]).lo := by
   show (if n + i < n then none else (l[n + i - n]?).bind Ln.lo) = _
   rw [if_neg (by omega), show n + i - n = i from by omega, List.getElem?_eq_getElem hi]; rfl
  have h2 : (Pb0 l n go).high (n + i) = some (l[i]).hi := by
   show (if n + i < n then none else (l[n + i - n]?).map Ln.hi) = _
   rw [if_neg (by omega), show n + i - n = i from by omega, List.getElem?_eq_getElem hi]; rfl
  have up := inr.2 _ h2
  have dn := inr.1
  rw [h1] at dn
  unfold Ln.hi V.le at up
  simp only at up
  unfold Ln.ok
  simp only [val_lin, ← r1, ← r2]
  by_cases k1 : l[i].rel = 1
  ·rw [if_neg (show ¬ l[i].rel = 2 by omega)] at up
   simp only [k1, if_true]
   rcases up with q | q
   ·obtain ⟨e, e0, he⟩ := eps_lt (y (n + i)).s q
    exact ⟨e, e0, fun t t0 t1 _ => Rat.le_of_lt (he t t0 t1)⟩
   ·refine ⟨1, by grind, fun t t0 _ _ => ?_⟩
    have := Rat.mul_nonneg (Rat.le_of_lt t0) (show 0 ≤ -(y (n + i)).s by grind)
    grind
  ·by_cases k2 : l[i].rel = 2
   ·rw [if_pos k2] at up
    simp only [k2, if_true, show ¬ (2 : Int) = 1 from by omega, if_false]
    rcases up with q | q
    ·obtain ⟨e, e0, he⟩ := eps_lt (y (n + i)).s q
     exact ⟨e, e0, fun t t0 t1 _ => he t t0 t1⟩
    ·refine ⟨1, by grind, fun t t0 _ _ => ?_⟩
     have := Rat.mul_pos t0 (show 0 < -(y (n + i)).s by grind)
     grind
   ·rw [if_neg k2] at up
    have dn := dn ⟨l[i].bd, 0⟩ (by unfold Ln.lo; rw [if_neg (fun h => h.elim k1 k2)])
    unfold V.le at dn
    simp only at dn
    simp only [k1, k2, if_false]
    refine ⟨1, by grind, fun t t0 _ _ => ?_⟩
    have e1 : (y (n + i)).m = l[i].bd := by grind
    have e2 : (y (n + i)).s = 0 := by grind
    rw [e1, e2]; grind
 refine ⟨e, ep, fun t t0 t1 r hr => ?_⟩
 obtain ⟨i, hi, rfl⟩ := List.getElem_of_mem hr
 exact he t t0 t1 i hi hi
/-- Feasible decides. -/
theorem feas_yes {l : List Ln} {n : Nat} {go : Nat → Rat} {Q : Pb} {g : Nat} (h : Mid (Pb0 l n go) g Q) (ha : ∀ v, v < (Pb0 l n go).n + (Pb0 l n go).m → inR (Pb0 l n go).low (Pb0 l n go).high v (Q.now v)) : ∃ x, Sol l n x := by
 obtain ⟨e, ep, he⟩ := in_sol (go := go) (y := Q.now) ⟨(h.kin.tw _).1 h.ok.tv.1, (h.kin.tw _).1 h.ok.tv.2⟩ ha
 exact ⟨_, he e ep Rat.le_refl⟩
theorem feas_no {l : List Ln} {n : Nat} {go : Nat → Rat} (h : ∀ y, (Pb0 l n go).TV y → (∀ v, v < (Pb0 l n go).n + (Pb0 l n go).m → inR (Pb0 l n go).low (Pb0 l n go).high v (y v)) → False) : ¬ ∃ x, Sol l n x := by
 rintro ⟨x, hx⟩
 obtain ⟨a, b⟩ := sol_in (go := go) hx
 exact h _ a b
/-- Greatest finds the end. -/
theorem sup_best {l : List Ln} {n : Nat} {go : Nat → Rat} {Q : Pb} {g : Nat} (h : Top (Pb0 l n go) g Q) (hh : Q.hlp g true = none) :
  IsSup (Sol l n) (val n go) (some ((Q.now (n + (l.length + 1) - 1)).m, decide ((Q.now (n + (l.length + 1) - 1)).s = 0))) := by
 have ty : (Pb0 l n go).TV Q.now := ⟨(h.kin.tw _).1 h.ok.tv.1, (h.kin.tw _).1 h.ok.tv.2⟩
 obtain ⟨e, ep, he⟩ := in_sol (go := go) (y := Q.now) ty fun v hv => by rw [← h.kin.low, ← h.kin.high]; exact h.all v (by rw [h.kin.n, h.kin.m]; exact hv)
 have gm : ∀ t, val n go (fun j => (Q.now j).m + t * (Q.now j).s) = (Q.now (n + (l.length + 1) - 1)).m + t * (Q.now (n + (l.length + 1) - 1)).s := fun t => by
  rw [val_lin]
  have a := TW.eq_vec ty.1 (v := n + (l.length + 1) - 1) (by omega)
  have b := TW.eq_vec ty.2 (v := n + (l.length + 1) - 1) (by omega)
  rw [vec_go] at a b
  rw [a, b]
 have top : ∀ x, Sol l n x → (⟨val n go x, 0⟩ : V).le (Q.now (n + (l.length + 1) - 1)) := fun x hx => by
  obtain ⟨a, b⟩ := sol_in (go := go) hx
  have := h.best hh _ a b
  have q : (Pb0 l n go).n + (Pb0 l n go).m - 1 = n + (l.length + 1) - 1 := rfl
  rw [q] at this
  simp only [vec_go] at this
  exact this
 generalize Q.now (n + (l.length + 1) - 1) = v at *
 have le : ∀ x, Sol l n x → val n go x ≤ v.m := fun x hx => by have := top x hx; unfold V.le at this; simp only at this; grind
 have sn : v.s ≤ 0 := by
  refine Classical.byContradiction fun q => ?_
  have a := le _ (he e ep Rat.le_refl)
  rw [gm] at a
  have := Rat.mul_pos ep (show 0 < v.s by grind)
  grind
 refine ⟨le, ?_, fun d hd => ?_⟩
 ·by_cases z : v.s = 0
  ·rw [if_pos (by simpa using z)]
   exact ⟨_, he e ep Rat.le_refl, by rw [gm, z]; grind⟩
  ·rw [if_neg (by simpa using z)]
   intro x hx
   have := top x hx
   unfold V.le at this
   simp only at this
   grind
 ·obtain ⟨e', ep', he'⟩ := eps_lt (a := -v.m) (b := -v.m + d) (-v.s) (by grind)
  by_cases c : e ≤ e'
  ·refine ⟨_, he e ep Rat.le_refl, ?_⟩
   rw [gm]
   have := he' e ep c
   grind
  ·refine ⟨_, he e' ep' (by grind), ?_⟩
   rw [gm]
   have := he' e' ep' Rat.le_refl
   grind
theorem sup_endless {l : List Ln} {n : Nat} {go : Nat → Rat} {Q : Pb} {g c : Nat} (h : Top (Pb0 l n go) g Q) (hh : Q.hlp g true = some c) (hz : Q.rz g c = none) : IsSup (Sol l n) (val n go) none := by
 intro M
 obtain ⟨q, q0, hq⟩ : ∃ q : Rat, 0 ≤ q ∧ M + 1 ≤ (Q.now (n + (l.length + 1) - 1)).m + q := by
  by_cases k : M + 1 ≤ (Q.now (n + (l.length + 1) - 1)).m
  ·exact ⟨0, by grind, by grind⟩
  ·exact ⟨M + 1 - (Q.now (n + (l.length + 1) - 1)).m, by grind, by grind⟩
 obtain ⟨y, ty, hy, hg⟩ := h.endless hh hz q q0
 have en : (Pb0 l n go).n + (Pb0 l n go).m - 1 = n + (l.length + 1) - 1 := rfl
 rw [en] at hg
 obtain ⟨e, ep, he⟩ := in_sol (go := go) ty hy
 have gm : ∀ t, val n go (fun j => (y j).m + t * (y j).s) = (y (n + (l.length + 1) - 1)).m + t * (y (n + (l.length + 1) - 1)).s := fun t => by
  rw [val_lin]
  have a := TW.eq_vec ty.1 (v := n + (l.length + 1) - 1) (by omega)
  have b := TW.eq_vec ty.2 (v := n + (l.length + 1) - 1) (by omega)
  rw [vec_go] at a b
  rw [a, b]
 have e1 : (y (n + (l.length + 1) - 1)).m = (Q.now (n + (l.length + 1) - 1)).m + q := by rw [hg]; rfl
 obtain ⟨e', ep', he'⟩ := eps_lt (a := -(y (n + (l.length + 1) - 1)).m) (b := -(y (n + (l.length + 1) - 1)).m + 1) (-(y (n + (l.length + 1) - 1)).s) (by grind)
 by_cases c : e ≤ e'
 ·refine ⟨_, he e ep Rat.le_refl, ?_⟩
  rw [gm]
  have := he' e ep c
  grind
 ·refine ⟨_, he e' ep' (by grind), ?_⟩
  rw [gm]
  have := he' e' ep' Rat.le_refl
  grind
/-- A row with small integers. -/
def Ln.Small (co : Nat → Rat) (bd : Rat) (n R : Nat) : Prop := ∃ (D : Nat) (a : Nat → Int) (b : Int), 1 ≤ D ∧ D ≤ R ∧ (∀ j, j < n → (D : Rat) * co j = (a j : Rat)) ∧ (D : Rat) * bd = (b : Rat) ∧ nrm n a + b.natAbs ≤ R ∧ nrm n a + D ≤ R
theorem nrm_unit (v : Nat) : ∀ n, nrm n (fun j => if j = v then 1 else 0) = if v < n then 1 else 0
 | 0 => rfl
 | n + 1 => by
  show nrm n _ + Int.natAbs (if n = v then 1 else 0) = _
  rw [nrm_unit v n]
  by_cases h : v < n
  ·rw [if_pos h, if_pos (show v < n + 1 by omega), if_neg (show ¬ n = v by omega)]; rfl
  ·rw [if_neg h]
   by_cases e : n = v
   ·rw [if_pos e, if_pos (show v < n + 1 by omega)]; rfl
   ·rw [if_neg e, if_neg (show ¬ v < n + 1 by omega)]; rfl
theorem Pb0.fm {l : List Ln} {n R : Nat} {go : Nat → Rat} (hl : ∀ i, (hi : i < l.length) → Ln.Small (l[i]).co (l[i]).bd n R) (hg : Ln.Small go 0 n R) : ∃ D a, Fm (Pb0 l n go) R D a := by
 have each : ∀ i, i < l.length + 1 → Ln.Small ((Pb0 l n go).T i) (match l[i]? with | some r => r.bd | none => 0) n R := fun i hi => by
  by_cases c : i < l.length
  ·rw [List.getElem?_eq_getElem c, show (Pb0 l n go).T i = (l[i]).co from funext fun k => Pb0.T_row c k]; exact hl i c
  ·have e : i = l.length := by omega
   subst e
   rw [List.getElem?_eq_none (Nat.le_refl _), show (Pb0 l n go).T l.length = go from funext fun k => Pb0.T_go k]; exact hg
 have r1 : 1 ≤ R := by obtain ⟨D, a, b, h1, h2, _⟩ := hg; omega
 obtain ⟨f, hf⟩ := Classical.axiomOfChoice (r := fun (i : Nat) (y : Nat × (Nat → Int) × Int) => i < l.length + 1 → 1 ≤ y.1 ∧ y.1 ≤ R ∧ (∀ j, j < n → (y.1 : Rat) * (Pb0 l n go).T i j = (y.2.1 j : Rat)) ∧ (y.1 : Rat) * (match l[i]? with | some r => r.bd | none => 0) = (y.2.2 : Rat) ∧ nrm n y.2.1 + y.2.2.natAbs ≤ R ∧ nrm n y.2.1 + y.1 ≤ R) fun i => by
  by_cases hi : i < l.length + 1
  ·obtain ⟨D, a, b, h⟩ := each i hi
   exact ⟨(D, a, b), fun _ => h⟩
  ·exact ⟨(0, fun _ => 0, 0), fun h => absurd h hi⟩
 clear each
 refine ⟨fun v => if v < n then 1 else (f (v - n)).1, fun v => if v < n then fun j => if j = v then 1 else 0 else (f (v - n)).2.1, ?_⟩
 have big : ∀ v, v < (Pb0 l n go).n + (Pb0 l n go).m → ¬ v < n → v - n < l.length + 1 := fun v hv hn => by
  have hv : v < n + (l.length + 1) := hv
  omega
 refine ⟨r1, fun v hv => ?_, fun v hv => ?_, fun y ty v hv => ?_, fun x => ⟨vec l n go x, vec_tw l n go x, fun j hj => vec_lt hj⟩, fun v e hv he => ?_⟩
 ·show 1 ≤ (if v < n then 1 else (f (v - n)).1) ∧ (if v < n then 1 else (f (v - n)).1) ≤ R
  by_cases c : v < n
  ·rw [if_pos c]; exact ⟨Nat.le_refl _, r1⟩
  ·rw [if_neg c]
   obtain ⟨h1, h2, _⟩ := hf (v - n) (big v hv c)
   exact ⟨h1, h2⟩
 ·show nrm n (if v < n then fun j => if j = v then 1 else 0 else (f (v - n)).2.1) ≤ R
  by_cases c : v < n
  ·rw [if_pos c, nrm_unit, if_pos c]; exact r1
  ·rw [if_neg c]
   obtain ⟨h1, h2, h3, h4, h5, h6⟩ := hf (v - n) (big v hv c)
   omega
 ·show (((if v < n then 1 else (f (v - n)).1 : Nat)) : Rat) * y v = sm n fun j => (((if v < n then fun j => if j = v then 1 else 0 else (f (v - n)).2.1) j : Int) : Rat) * y j
  by_cases c : v < n
  ·rw [if_pos c, if_pos c, sm_one (r := v) (f := fun j => (((if j = v then 1 else 0 : Int)) : Rat) * y j) c fun j hj hne => by rw [if_neg hne]; simp]
   simp
  ·rw [if_neg c, if_neg c]
   obtain ⟨h1, h2, h3, h4, h5, h6⟩ := hf (v - n) (big v hv c)
   have hv : v < n + (l.length + 1) := hv
   have yv := TW.eq_vec ty hv
   unfold vec at yv
   rw [if_neg c] at yv
   rw [yv, ← sm_mul]
   exact sm_congr fun j hj => by rw [← Rat.mul_assoc, h3 j hj]
 ·by_cases c : v < n
  ·exfalso
   rcases he with he | he
   ·have he : (if v < n then none else (l[v - n]?).bind Ln.lo) = some e := he
    rw [if_pos c] at he; simp at he
   ·have he : (if v < n then none else (l[v - n]?).map Ln.hi) = some e := he
    rw [if_pos c] at he; simp at he
  ·show ∃ bm bs : Int, (((if v < n then 1 else (f (v - n)).1 : Nat)) : Rat) * e.m = (bm : Rat) ∧ (((if v < n then 1 else (f (v - n)).1 : Nat)) : Rat) * e.s = (bs : Rat) ∧ nrm n (if v < n then fun j => if j = v then 1 else 0 else (f (v - n)).2.1) + bm.natAbs ≤ R ∧ nrm n (if v < n then fun j => if j = v then 1 else 0 else (f (v - n)).2.1) + bs.natAbs ≤ R
   rw [if_neg c, if_neg c]
   obtain ⟨h1, h2, h3, h4, h5, h6⟩ := hf (v - n) (big v hv c)
   obtain ⟨r, hr, em, es⟩ : ∃ r, l[v - n]? = some r ∧ e.m = r.bd ∧ (e.s = 0 ∨ e.s = -1) := by
    rcases he with he | he
    ·have he : (if v < n then none else (l[v - n]?).bind Ln.lo) = some e := he
     rw [if_neg c] at he
     cases q : l[v - n]? with
     | none => rw [q] at he; simp at he
     | some r =>
      rw [q] at he
      simp only [Option.bind_some, Ln.lo] at he
      split at he
      ·simp at he
      ·cases he; exact ⟨r, rfl, rfl, Or.inl rfl⟩
    ·have he : (if v < n then none else (l[v - n]?).map Ln.hi) = some e := he
     rw [if_neg c] at he
     cases q : l[v - n]? with
     | none => rw [q] at he; simp at he
     | some r =>
      rw [q] at he
      simp only [Option.map_some, Option.some.injEq] at he
      subst he
      refine ⟨r, rfl, rfl, ?_⟩
      unfold Ln.hi
      simp only
      split
      ·exact Or.inr rfl
      ·exact Or.inl rfl
   rw [hr] at h4
   have h4 : ((f (v - n)).1 : Rat) * r.bd = ((f (v - n)).2.2 : Rat) := h4
   rw [← em] at h4
   rcases es with es | es
   ·exact ⟨(f (v - n)).2.2, 0, h4, by rw [es]; simp, h5, by show nrm n _ + 0 ≤ R; omega⟩
   ·refine ⟨(f (v - n)).2.2, -((f (v - n)).1 : Int), h4, ?_, h5, ?_⟩
    ·rw [es, Rat.intCast_neg]
     show _ = -((f (v - n)).1 : Rat)
     grind
    ·rw [Int.natAbs_neg, Int.natAbs_natCast]; exact h6
end Go.Proofs.Ytijdglogadnbcaa.Bl
namespace Go.Proofs.Ytijdglogadnbcaa
open Go.RowKit Nt Bl
/-- A row whose numbers are valid. -/
structure Rl where
 cs : List (Nat × Rat)
 rel : Int
 bd : Rat
instance : Inhabited Rl := ⟨⟨[], 0, 0⟩⟩
def cq (l : List (Nat × Rat)) (i : Nat) : Nat × Rat := l.getD i (0, 0)
def rq (l : List Rl) (i : Nat) : Rl := l.getD i default
/-- Coefficients in memory. -/
def QfAt (w : World) (l : List (Nat × Rat)) (ca : Option Addr) : Prop :=
 l ≠ [] → ∃ g o, ca = some ⟨g, o, none⟩ ∧ ∀ i, i < l.length → ∃ N : Nw, w.cell? ⟨g, o + i * 4, none⟩ = some (.int .i64 ((cq l i).1 : Int)) ∧ w.cell? ⟨g, o + i * 4 + 1, none⟩ = some (.bool N.s) ∧
  w.cell? ⟨g, o + i * 4 + 2, none⟩ = some (.slice N.a N.n N.c) ∧ w.cell? ⟨g, o + i * 4 + 3, none⟩ = some (.slice N.b N.m N.d) ∧ RA w (cq l i).2 N
theorem QfAt.below {w w' : World} {l : List (Nat × Rat)} {ca : Option Addr} (h : QfAt w l ca) (hb : Below w.heap.size w w') : QfAt w' l ca := by
 intro hne
 obtain ⟨g, o, e, k⟩ := h hne
 refine ⟨g, o, e, fun i hi => ?_⟩
 obtain ⟨N, a, b, c, d, r⟩ := k i hi
 exact ⟨N, cell_later hb (Nat.le_refl _) a, cell_later hb (Nat.le_refl _) b, cell_later hb (Nat.le_refl _) c, cell_later hb (Nat.le_refl _) d, RAt.below r hb⟩
theorem QfAt.nil (w : World) (ca : Option Addr) : QfAt w [] ca := fun h => absurd rfl h
/-- What the five cells of a row hold. -/
structure R5 (w : World) (R : Rl) (ca : Option Addr) (cc : Nat) (N : Nw) : Prop where
 co : QfAt w R.cs ca
 le : R.cs.length ≤ cc
 cap : cc ≤ 9223372036854775807
 bd : RA w R.bd N
theorem R5.below {w w' : World} {R : Rl} {ca : Option Addr} {cc : Nat} {N : Nw} (h : R5 w R ca cc N) (hb : Below w.heap.size w w') : R5 w' R ca cc N := ⟨h.co.below hb, h.le, h.cap, RAt.below h.bd hb⟩
def row5 (R : Rl) (ca : Option Addr) (cc : Nat) (N : Nw) : List Value := [.slice ca R.cs.length cc, .int .i64 R.rel, .bool N.s, .slice N.a N.n N.c, .slice N.b N.m N.d]
/-- The values of all rows' cells. -/
def RlV (w : World) (l : List Rl) (vs : List Value) : Prop := vs.length = l.length * 5 ∧ ∀ i, i < l.length → ∃ ca cc N, (∀ k, k < 5 → vs[i * 5 + k]? = (row5 (rq l i) ca cc N)[k]?) ∧ R5 w (rq l i) ca cc N
theorem RlV.below {w w' : World} {l : List Rl} {vs : List Value} (h : RlV w l vs) (hb : Below w.heap.size w w') : RlV w' l vs :=
 ⟨h.1, fun i hi => by obtain ⟨ca, cc, N, a, b⟩ := h.2 i hi; exact ⟨ca, cc, N, a, b.below hb⟩⟩
theorem RlV.nil (w : World) : RlV w [] [] := ⟨rfl, fun i hi => absurd hi (Nat.not_lt_zero _)⟩
theorem rq_append {l : List Rl} {R : Rl} {i : Nat} (h : i < l.length) : rq (l ++ [R]) i = rq l i := by
 unfold rq; rw [List.getD_eq_getElem?_getD, List.getD_eq_getElem?_getD, List.getElem?_append_left h]
theorem rq_last {l : List Rl} {R : Rl} : rq (l ++ [R]) l.length = R := by
 unfold rq; rw [List.getD_eq_getElem?_getD, List.getElem?_append_right (Nat.le_refl _)]; simp
theorem RlV.push {w : World} {l : List Rl} {vs : List Value} {R : Rl} {ca : Option Addr} {cc : Nat} {N : Nw} (h : RlV w l vs) (r : R5 w R ca cc N) : RlV w (l ++ [R]) (vs ++ row5 R ca cc N) := by
 refine ⟨by simp [h.1, row5]; omega, fun i hi => ?_⟩
 rw [List.length_append, List.length_singleton] at hi
 by_cases e : i < l.length
 ·obtain ⟨ca', cc', N', a, b⟩ := h.2 i e
  rw [rq_append e]
  refine ⟨ca', cc', N', fun k hk => ?_, b⟩
  rw [List.getElem?_append_left (by rw [h.1]; omega)]; exact a k hk
 ·obtain rfl : i = l.length := by omega
  rw [rq_last]
  refine ⟨ca, cc, N, fun k hk => ?_, r⟩
  rw [List.getElem?_append_right (by rw [h.1]; omega), h.1, Nat.add_sub_cancel_left]
theorem row5_one {R : Rl} {ca : Option Addr} {cc : Nat} {N : Nw} : ∀ u ∈ row5 R ca cc N, u.oneCell' = true := by
 intro u hu
 simp [row5] at hu
 rcases hu with rfl | rfl | rfl | rfl | rfl <;> rfl
theorem RlV.one {w : World} {l : List Rl} {vs : List Value} (h : RlV w l vs) : ∀ u ∈ vs, u.oneCell' = true := by
 intro u hu
 obtain ⟨j, hj, rfl⟩ := List.getElem_of_mem hu
 have hj' : j / 5 < l.length := by rw [h.1] at hj; omega
 obtain ⟨ca, cc, N, a, b⟩ := h.2 (j / 5) hj'
 have e := a (j % 5) (by omega)
 rw [show j / 5 * 5 + j % 5 = j from by omega, List.getElem?_eq_getElem hj] at e
 have lt : j % 5 < (row5 (rq l (j / 5)) ca cc N).length := by simp [row5]; omega
 rw [List.getElem?_eq_getElem lt] at e
 injection e with e
 rw [e]
 exact row5_one _ (List.getElem_mem lt)
/-- Rows in memory. -/
def RlsAt (w : World) (l : List Rl) (ra : Option Addr) : Prop := ∃ vs, RlV w l vs ∧ (l ≠ [] → ∃ g o, ra = some ⟨g, o, none⟩ ∧ ∀ j u, vs[j]? = some u → w.cell? ⟨g, o + j, none⟩ = some u)
theorem RlsAt.below {w w' : World} {l : List Rl} {ra : Option Addr} (h : RlsAt w l ra) (hb : Below w.heap.size w w') : RlsAt w' l ra := by
 obtain ⟨vs, a, b⟩ := h
 refine ⟨vs, a.below hb, fun hne => ?_⟩
 obtain ⟨g, o, e, k⟩ := b hne
 exact ⟨g, o, e, fun j u hu => cell_later hb (Nat.le_refl _) (k j u hu)⟩
theorem add_at (g o j : Nat) : (⟨g, o, none⟩ : Addr).add j = ⟨g, o + j, none⟩ := by unfold Addr.add; split <;> simp_all
theorem info27 : (Try.prog.info? 28).map (fun i => (i.zero, i.size, i.bytes)) = some (some (.agg #[.slice none 0 0, .int .i64 0, .bool false, .slice none 0 0, .slice none 0 0]), 5, 88) := by kernel_rfl
theorem below_own {w w1 : World} {v : Value} {e sz k : Nat} {xs : List Value} {T : Nat} {w0 : World} (B : Below T w0 w) (O : w.ownsRow T e sz v k xs) (hT : T ≤ w.heap.size) (G : w.grownBy w1 v.ownBlock) : Below T w0 w1 :=
 ⟨G.os.trans B.os, G.tape.trans B.tape, G.output.trans B.output, Nat.le_trans B.size G.size, fun q hq => (G.block q (Nat.lt_of_lt_of_le hq hT) (fun e => by have := (O.lt q e.symm).1; omega)).trans (B.block q hq)⟩
theorem own_emptyT (w : World) (e sz : Nat) : (w.alloc (.cells #[] e)).ownsRow w.heap.size e sz (.slice (some ⟨w.heap.size, 0, none⟩) 0 0) 0 [] :=
 World.ownsRow_made w #[] 0 (Nat.le_refl _) (Nat.zero_le _) (by simp)
theorem cloneRows_any {w : World} {l : List Rl} {vs : List Value} {ra : Option Addr} {n rc : Nat} (hv : RlV w l vs) (ha : l ≠ [] → ∃ g o, ra = some ⟨g, o, none⟩ ∧ ∀ j u, vs[j]? = some u → w.cell? ⟨g, o + j, none⟩ = some u) (hn : l.length = n) (h1000 : n ≤ 1000) :
  Calls Try.prog 45 #[.slice ra n rc] w fun e w' => ∃ v', e = .returned v' ∧ w'.ownsRow w.heap.size 28 5 v' n vs ∧ Below w.heap.size w w' := by
 have VL : Hid (vs.length = n * 5) := by show _ = _; rw [hv.1, hn]
 have VO := Lib.hid hv.one
 obtain ⟨i0, hi0, hz0, hz1, hz2⟩ := info_parts info27
 cases ra with
 | none =>
  have l0 : l = [] := by
   refine Classical.byContradiction fun q => ?_
   obtain ⟨g, o, e, _⟩ := ha q
   simp at e
  have n0 : n = 0 := by rw [← hn, l0]; rfl
  subst n0
  have v0 : vs = [] := List.eq_nil_of_length_eq_zero VL.out
  clear VL VO hv ha hn
  subst v0
  have he := fun (w : World) => Lib.run_eql_slice_nil (P := Try.prog) w 22 28 none 0 rc 0 0 Try.underlying22
  go_enter Try.func45, Try.ntmps45
  go_wp2_with fail
  go_ret
  exact ⟨_, rfl, World.ownsRow_nil _ _ _ _, Below.refl _ _⟩
 | some ad =>
  have SRC : Hid (∀ j u, vs[j]? = some u → (w.alloc (.cells #[] 28)).cell? (ad.add j) = some u) := by
   intro j u hu
   have hne : l ≠ [] := fun e => by rw [List.eq_nil_of_length_eq_zero (l := vs) (by rw [hv.1, e]; rfl)] at hu; simp at hu
   obtain ⟨g, o, e, k⟩ := ha hne
   simp only [Option.some.injEq] at e
   subst e
   rw [add_at]
   exact cell_later (below_new w _) (Nat.le_refl _) (k j u hu)
  have OW : Hid ((w.alloc (.cells #[] 28)).ownsRow w.heap.size 28 5 (.slice (some ⟨w.heap.size, 0, none⟩) 0 0) 0 []) := own_emptyT w 28 5
  have B0 : Hid (Below w.heap.size w (w.alloc (.cells #[] 28))) := below_new w _
  have he := fun (w : World) => Lib.run_eql_slice_nil (P := Try.prog) w 22 28 (some ad) n rc 0 0 Try.underlying22
  clear hv ha hn
  go_enter Try.func45, Try.ntmps45
  go_wp2_with (at_builtin; refine wpList_append_own _ rfl _ _ 22 rfl w.heap.size 28 i0 _ 5 88 Try.underlying22 hi0 hz0 hz1 hz2 rfl (by omega) (.slice (some ⟨w.heap.size, 0, none⟩) 0 0) 0 [] rfl OW.out ad n rc vs rfl VL.out SRC.out VO.out (by unfold maxLen; omega) (by omega) B0.out.size ?_; intro v4 w4 hown4 hgrow4 hat4; have OW4 := Lib.hid hown4; have GR4 := Lib.hid hgrow4; clear hown4 hgrow4 hat4)
  go_ret
  have o := OW4.out
  rw [Nat.zero_add, List.nil_append] at o
  exact ⟨_, rfl, o, below_own B0.out OW.out B0.out.size GR4.out⟩
end Go.Proofs.Ytijdglogadnbcaa
