/- Looking for values in all ranges ends (Bland's rule). No program. -/
import Derived.Test.YtijdglogadnbcaaZ09
import Derived.Laws.IdiomCopy
set_option linter.unusedVariables false
set_option linter.unusedSimpArgs false
set_option maxRecDepth 100000
set_option maxHeartbeats 40000000
namespace Go.Proofs.Ytijdglogadnbcaa.Bl
/-- A number plus a multiple of something positive that is smaller than all numbers. -/
structure V where
 m : Rat
 s : Rat
deriving DecidableEq
def V.add (a b : V) : V := ⟨a.m + b.m, a.s + b.s⟩
def V.sub (a b : V) : V := ⟨a.m - b.m, a.s - b.s⟩
def V.mul (q : Rat) (a : V) : V := ⟨q * a.m, q * a.s⟩
def V.lt (a b : V) : Prop := a.m < b.m ∨ a.m = b.m ∧ a.s < b.s
def V.le (a b : V) : Prop := a.m < b.m ∨ a.m = b.m ∧ a.s ≤ b.s
instance (a b : V) : Decidable (V.lt a b) := inferInstanceAs (Decidable (_ ∨ _))
instance (a b : V) : Decidable (V.le a b) := inferInstanceAs (Decidable (_ ∨ _))
theorem V.not_lt {a b : V} : ¬ a.lt b ↔ b.le a := by unfold V.lt V.le; grind
theorem V.not_le {a b : V} : ¬ a.le b ↔ b.lt a := by unfold V.lt V.le; grind
theorem V.le_trans {a b c : V} (h : a.le b) (k : b.le c) : a.le c := by unfold V.le at *; grind
theorem V.lt_of_lt_of_le {a b c : V} (h : a.lt b) (k : b.le c) : a.lt c := by unfold V.lt V.le at *; grind
theorem V.lt_of_le_of_lt {a b c : V} (h : a.le b) (k : b.lt c) : a.lt c := by unfold V.lt V.le at *; grind
theorem V.lt_trans {a b c : V} (h : a.lt b) (k : b.lt c) : a.lt c := by unfold V.lt at *; grind
theorem V.le_of_lt {a b : V} (h : a.lt b) : a.le b := by unfold V.lt V.le at *; grind
theorem V.le_refl (a : V) : a.le a := by unfold V.le; grind
theorem V.le_antisymm {a b : V} (h : a.le b) (k : b.le a) : a = b := by
 cases a; cases b; unfold V.le at *; simp only [V.mk.injEq]; simp only at *; grind
theorem V.lt_irrefl (a : V) : ¬ a.lt a := by unfold V.lt; grind
/-- Below 0; not above 0. -/
def V.neg (a : V) : Prop := a.m < 0 ∨ a.m = 0 ∧ a.s < 0
def V.npos (a : V) : Prop := a.m < 0 ∨ a.m = 0 ∧ a.s ≤ 0
theorem V.neg_npos {a : V} (h : a.neg) : a.npos := by unfold V.neg at h; unfold V.npos; grind
theorem V.npos_add {a b : V} (h : a.npos) (k : b.npos) : (a.add b).npos := by unfold V.npos V.add at *; simp only; grind
theorem V.neg_add {a b : V} (h : a.neg) (k : b.npos) : (a.add b).neg := by unfold V.neg V.npos V.add at *; simp only; grind
theorem V.neg_add' {a b : V} (h : a.npos) (k : b.neg) : (a.add b).neg := by unfold V.neg V.npos V.add at *; simp only; grind
theorem V.lt_iff {a b : V} : a.lt b ↔ (a.sub b).neg := by unfold V.lt V.neg V.sub; simp only; grind
theorem V.le_iff {a b : V} : a.le b ↔ (a.sub b).npos := by unfold V.le V.npos V.sub; simp only; grind
theorem V.mul_neg {q : Rat} {a : V} (hq : 0 < q) (h : a.neg) : (V.mul q a).neg := by
 unfold V.neg V.mul at *; simp only
 rcases h with h | ⟨h1, h2⟩
 ·exact Or.inl (mul_neg_of (Or.inr ⟨hq, h⟩))
 ·exact Or.inr ⟨by rw [h1]; grind, mul_neg_of (Or.inr ⟨hq, h2⟩)⟩
theorem V.mul_npos {q : Rat} {a : V} (hq : 0 ≤ q) (h : a.npos) : (V.mul q a).npos := by
 by_cases e : q = 0
 ·subst e; unfold V.npos V.mul; simp only; right; constructor <;> grind
 ·by_cases n : a.neg
  ·exact V.neg_npos (V.mul_neg (by grind) n)
  ·unfold V.npos V.neg V.mul at *; simp only
   have h1 : a.m = 0 := by grind
   have h2 : a.s = 0 := by grind
   rw [h1, h2]; right; constructor <;> grind
theorem V.mul_neg_flip {q : Rat} {a b : V} (hq : q < 0) (h : (b.sub a).neg) : (V.mul q (a.sub b)).neg := by
 have := V.mul_neg (q := -q) (by grind) h
 unfold V.neg V.mul V.sub at *; simp only at *; grind
theorem V.mul_npos_flip {q : Rat} {a b : V} (hq : q ≤ 0) (h : (b.sub a).npos) : (V.mul q (a.sub b)).npos := by
 have := V.mul_npos (q := -q) (by grind) h
 unfold V.npos V.mul V.sub at *; simp only at *; grind
/-- Sums of multiples of values. -/
def vs (n : Nat) (a : Nat → Rat) (x : Nat → V) : V := ⟨sm n fun j => a j * (x j).m, sm n fun j => a j * (x j).s⟩
theorem vs_succ (n : Nat) (a : Nat → Rat) (x : Nat → V) : vs (n + 1) a x = (vs n a x).add (V.mul (a n) (x n)) := rfl
theorem vs_sub (n : Nat) (a : Nat → Rat) (x y : Nat → V) : (vs n a x).sub (vs n a y) = vs n a fun j => (x j).sub (y j) := by
 induction n with
 | zero => simp only [vs, sm, V.sub]; congr 1 <;> grind
 | succ n ih =>
  rw [vs_succ, vs_succ, vs_succ, ← ih]
  unfold V.sub V.add V.mul; simp only; congr 1 <;> grind
theorem vs_scale (n : Nat) (q : Rat) (a : Nat → Rat) (x : Nat → V) : V.mul q (vs n a x) = vs n (fun j => q * a j) x := by
 unfold V.mul vs
 simp only [← sm_mul]
 congr 1 <;> exact sm_congr fun j _ => by grind
theorem vs_npos {n : Nat} {a : Nat → Rat} {x : Nat → V} (h : ∀ j, j < n → (V.mul (a j) (x j)).npos) : (vs n a x).npos := by
 induction n with
 | zero => exact Or.inr ⟨rfl, Rat.le_refl⟩
 | succ n ih => rw [vs_succ]; exact V.npos_add (ih fun j hj => h j (by omega)) (h n (by omega))
theorem vs_neg {n r : Nat} {a : Nat → Rat} {x : Nat → V} (h : ∀ j, j < n → (V.mul (a j) (x j)).npos) (hr : r < n) (h2 : (V.mul (a r) (x r)).neg) : (vs n a x).neg := by
 induction n with
 | zero => omega
 | succ n ih =>
  rw [vs_succ]
  by_cases e : r = n
  ·subst e; exact V.neg_add' (vs_npos fun j hj => h j (by omega)) h2
  ·exact V.neg_add (ih (fun j hj => h j (by omega)) (by omega)) (h n (by omega))
def inR (low high : Nat → Option V) (j : Nat) (x : V) : Prop := (∀ l, low j = some l → l.le x) ∧ ∀ h, high j = some h → x.le h
def rise (high : Nat → Option V) (j : Nat) (x : V) : Prop := ∀ h, high j = some h → x.lt h
def fall (low : Nat → Option V) (j : Nat) (x : V) : Prop := ∀ l, low j = some l → l.lt x
/-- Exchanges that bring the least broken variable to its end, by the least column that can. -/
structure Mend (nb : Nat → Nat → Prop) (inn out : Nat → Nat) (a : Nat → Nat → Rat) (x : Nat → Nat → V) (up : Nat → Bool) (low high : Nat → Option V) (N L : Nat) : Prop where
 ex : Ex nb inn out L
 lt : ∀ t, t < L → inn t < N ∧ out t < N
 asup : ∀ t, t < L → ∀ j, a t j ≠ 0 → nb t j
 row : ∀ t u, t < L → u ≤ L → x u (out t) = vs N (a t) (x u)
 inb : ∀ t, t ≤ L → ∀ j, nb t j → inR low high j (x t j)
 keep : ∀ t, t < L → ∀ j, nb t j → j ≠ inn t → x (t + 1) j = x t j
 viol : ∀ t, t < L → if up t then ∃ l, low (out t) = some l ∧ (x t (out t)).lt l ∧ x (t + 1) (out t) = l else ∃ h, high (out t) = some h ∧ h.lt (x t (out t)) ∧ x (t + 1) (out t) = h
 first : ∀ t, t < L → ∀ j, j < out t → ¬ nb t j → inR low high j (x t j)
 good : ∀ t, t < L → (0 < (if up t then 1 else -1 : Rat) * a t (inn t) ∧ rise high (inn t) (x t (inn t))) ∨ ((if up t then 1 else -1 : Rat) * a t (inn t) < 0 ∧ fall low (inn t) (x t (inn t)))
 least : ∀ t, t < L → ∀ j, j < inn t → nb t j → ¬ (0 < (if up t then 1 else -1 : Rat) * a t j ∧ rise high j (x t j)) ∧ ¬ ((if up t then 1 else -1 : Rat) * a t j < 0 ∧ fall low j (x t j))
theorem not_rise {high : Nat → Option V} {j : Nat} {x : V} (h : ¬ rise high j x) : ∃ u, high j = some u ∧ u.le x := by
 unfold rise at h
 simp only [Classical.not_forall] at h
 obtain ⟨u, hu, hl⟩ := h
 exact ⟨u, hu, V.not_lt.1 hl⟩
theorem not_fall {low : Nat → Option V} {j : Nat} {x : V} (h : ¬ fall low j x) : ∃ u, low j = some u ∧ x.le u := by
 unfold fall at h
 simp only [Classical.not_forall] at h
 obtain ⟨u, hu, hl⟩ := h
 exact ⟨u, hu, V.not_lt.1 hl⟩
theorem Mend.noBack {nb : Nat → Nat → Prop} {inn out : Nat → Nat} {a : Nat → Nat → Rat} {x : Nat → Nat → V} {up : Nat → Bool} {low high : Nat → Option V} {N L : Nat} (h : Mend nb inn out a x up low high N L) : NoBack inn out L := by
 intro r t1 t2 hlt hL ho hi hb hq
 have L1 : t1 < L := by omega
 -- unmoved from t1 + 1 to t2
 have same : ∀ j, nb (t1 + 1) j → (∀ k, t1 < k → k < t2 → inn k ≠ j) → ∀ d, t1 + 1 + d ≤ t2 → nb (t1 + 1 + d) j ∧ x (t1 + 1 + d) j = x (t1 + 1) j := by
  intro j hj hk d
  induction d with
  | zero => intro _; exact ⟨hj, rfl⟩
  | succ d ih =>
   intro hd
   obtain ⟨i1, i2⟩ := ih (by omega)
   have ne := hk (t1 + 1 + d) (by omega) (by omega)
   show nb (t1 + 1 + d + 1) j ∧ x (t1 + 1 + d + 1) j = x (t1 + 1) j
   refine ⟨(h.ex.next (t1 + 1 + d) (by omega) j).2 (Or.inl ⟨i1, fun e => ne e.symm⟩), ?_⟩
   rw [← i2]
   exact h.keep (t1 + 1 + d) (by omega) j i1 fun e => ne e.symm
 have nr : nb (t1 + 1) r := (h.ex.next t1 L1 r).2 (Or.inr ho.symm)
 have xr : x t2 r = x (t1 + 1) r := by
  have := (same r nr (fun k a b => (hq k a b).1) (t2 - (t1 + 1)) (by omega)).2
  rwa [show t1 + 1 + (t2 - (t1 + 1)) = t2 from by omega] at this
 have gr := h.good t2 hL
 have ls := h.least t2 hL
 rw [hi] at gr ls
 have ir : out t2 < r := by
  have := (hb t2 (by omega) (Nat.le_refl _)).2
  have : out t2 ≠ r := fun e => h.ex.hout t2 hL (by rw [e, ← hi]; exact h.ex.hin t2 hL)
  omega
 have within : ∀ j, j < r → inR low high j (x t1 j) := fun j hj => by
  by_cases e : nb t1 j
  ·exact h.inb t1 (by omega) j e
  ·exact h.first t1 L1 j (by omega) e
 have hneg : ((vs N (fun j => (if up t2 then 1 else -1 : Rat) * a t2 j) (x t1)).sub (vs N (fun j => (if up t2 then 1 else -1 : Rat) * a t2 j) (x t2))).neg := by
  rw [vs_sub]
  have vr : (V.mul ((if up t2 then 1 else -1 : Rat) * a t2 r) ((x t1 r).sub (x t2 r))).neg := by
   have v1 := h.viol t1 L1
   rw [ho] at v1
   by_cases u1 : up t1 = true
   ·rw [if_pos u1] at v1
    obtain ⟨l, e1, e2, e3⟩ := v1
    rw [e3] at xr
    rcases gr with ⟨g1, g2⟩ | ⟨g1, g2⟩
    ·exact V.mul_neg g1 (V.lt_iff.1 (by rw [xr]; exact e2))
    ·have := g2 l e1
     rw [xr] at this
     exact absurd this (V.lt_irrefl l)
   ·rw [if_neg u1] at v1
    obtain ⟨l, e1, e2, e3⟩ := v1
    rw [e3] at xr
    rcases gr with ⟨g1, g2⟩ | ⟨g1, g2⟩
    ·have := g2 l e1
     rw [xr] at this
     exact absurd this (V.lt_irrefl l)
    ·exact V.mul_neg_flip g1 (V.lt_iff.1 (by rw [xr]; exact e2))
  refine vs_neg (r := r) (fun j hj => ?_) (by rw [← ho]; exact (h.lt t1 L1).2) vr
  by_cases ec : a t2 j = 0
  ·rw [ec]; unfold V.mul V.npos; simp only; right; constructor <;> grind
  ·have nj := h.asup t2 hL j ec
   rcases Nat.lt_trichotomy j r with q | q | q
   ·have ls := ls j q nj
    have wi := within j q
    by_cases p : 0 < (if up t2 then 1 else -1 : Rat) * a t2 j
    ·obtain ⟨u, hu, hle⟩ := not_rise fun k => ls.1 ⟨p, k⟩
     exact V.mul_npos (Rat.le_of_lt p) (V.le_iff.1 (V.le_trans (wi.2 u hu) hle))
    ·by_cases p2 : (if up t2 then 1 else -1 : Rat) * a t2 j < 0
     ·obtain ⟨u, hu, hle⟩ := not_fall fun k => ls.2 ⟨p2, k⟩
      exact V.mul_npos_flip (Rat.le_of_lt p2) (V.le_iff.1 (V.le_trans hle (wi.1 u hu)))
     ·have : (if up t2 then 1 else -1 : Rat) * a t2 j = 0 := by grind
      rw [this]; unfold V.mul V.npos; simp only; right; constructor <;> grind
   ·subst q; exact V.neg_npos vr
   ·have nj1 : nb (t1 + 1) j := by
     refine (h.ex.stay (r := j) (show t1 + 1 ≤ t2 by omega) (by omega) fun k a b => ?_).1 nj
     have := hb k (by omega) (by omega)
     omega
    have nj0 : nb t1 j := by
     rcases (h.ex.next t1 L1 j).1 nj1 with e | e
     ·exact e.1
     ·omega
    have e1 := h.keep t1 L1 j nj0 (by have := (hb t1 (Nat.le_refl _) (by omega)).1; omega)
    have e2 : x t2 j = x (t1 + 1) j := by
     have := (same j nj1 (fun k a b => by have := (hb k (by omega) (by omega)).1; omega) (t2 - (t1 + 1)) (by omega)).2
     rwa [show t1 + 1 + (t2 - (t1 + 1)) = t2 from by omega] at this
    rw [e2, e1]
    unfold V.mul V.sub V.npos; simp only; right; constructor <;> grind
 rw [← vs_scale, ← vs_scale, ← h.row t2 t1 hL (by omega), ← h.row t2 t2 hL (by omega)] at hneg
 have v2 := h.viol t2 hL
 by_cases u2 : up t2 = true
 ·rw [if_pos u2] at v2 hneg
  obtain ⟨l, e1, e2, e3⟩ := v2
  have := V.lt_of_lt_of_le e2 ((within (out t2) ir).1 l e1)
  rw [V.lt_iff] at this
  unfold V.neg V.mul V.sub at *; simp only at *; grind
 ·rw [if_neg u2] at v2 hneg
  obtain ⟨l, e1, e2, e3⟩ := v2
  have := V.lt_of_le_of_lt ((within (out t2) ir).2 l e1) e2
  rw [V.lt_iff] at this
  unfold V.neg V.mul V.sub at *; simp only at *; grind
theorem Mend.ends {nb : Nat → Nat → Prop} {inn out : Nat → Nat} {a : Nat → Nat → Rat} {x : Nat → Nat → V} {up : Nat → Bool} {low high : Nat → Option V} {N L : Nat} (h : Mend nb inn out a x up low high N L) : L < 3 ^ N :=
 run_ends h.ex h.noBack h.lt
end Go.Proofs.Ytijdglogadnbcaa.Bl
/- Tables of the simplex method: exchanging a row and a column. No program. -/
namespace Go.Proofs.Ytijdglogadnbcaa.Bl
/-- A problem: n columns, m rows; each row's variable is the sum of the columns' variables, each times its entry. -/
structure Pb where
 n : Nat
 m : Nat
 low : Nat → Option V
 high : Nat → Option V
 now : Nat → V
 basic : Nat → Nat
 free : Nat → Nat
 T : Nat → Nat → Rat
/-- The variables are the rows' and the columns', each once. -/
structure Pb.Pl (P : Pb) : Prop where
 blt : ∀ i, i < P.m → P.basic i < P.n + P.m
 flt : ∀ k, k < P.n → P.free k < P.n + P.m
 binj : ∀ i j, i < P.m → j < P.m → P.basic i = P.basic j → i = j
 finj : ∀ i j, i < P.n → j < P.n → P.free i = P.free j → i = j
 disj : ∀ i k, i < P.m → k < P.n → P.basic i ≠ P.free k
 cover : ∀ v, v < P.n + P.m → (∃ i, i < P.m ∧ P.basic i = v) ∨ ∃ k, k < P.n ∧ P.free k = v
def Pb.nb (P : Pb) (v : Nat) : Prop := ∃ k, k < P.n ∧ P.free k = v
/-- Vectors that satisfy the table. -/
def Pb.TW (P : Pb) (y : Nat → Rat) : Prop := ∀ i, i < P.m → y (P.basic i) = sm P.n fun k => P.T i k * y (P.free k)
def Pb.TV (P : Pb) (y : Nat → V) : Prop := P.TW (fun j => (y j).m) ∧ P.TW (fun j => (y j).s)
theorem sm_split {n c : Nat} (hc : c < n) (f : Nat → Rat) : sm n f = sm n (fun k => if k = c then 0 else f k) + f c := by
 have e : ∀ k, f k = (if k = c then 0 else f k) + (if k = c then f c else 0) := fun k => by
  by_cases h : k = c
  ·subst h; simp; grind
  ·simp [h]; grind
 have : sm n f = sm n (fun k => (if k = c then 0 else f k) + (if k = c then f c else 0)) := sm_congr fun k _ => e k
 rw [this, sm_add, sm_one (r := c) (f := fun k => if k = c then f c else 0) hc fun j _ hj => by simp [hj]]
 simp
/-- The exchange. -/
def Pb.pivot (P : Pb) (r c : Nat) : Pb :=
 { P with
  basic := fun i => if i = r then P.free c else P.basic i
  free := fun k => if k = c then P.basic r else P.free k
  T := fun i k => if i = r then (if k = c then (P.T r c)⁻¹ else -(P.T r k * (P.T r c)⁻¹))
   else (if k = c then 0 else P.T i k) + P.T i c * (if k = c then (P.T r c)⁻¹ else -(P.T r k * (P.T r c)⁻¹)) }
theorem Pb.Pl.pivot {P : Pb} (h : P.Pl) {r c : Nat} (hr : r < P.m) (hc : c < P.n) : (P.pivot r c).Pl := by
 have b : ∀ i, (P.pivot r c).basic i = if i = r then P.free c else P.basic i := fun _ => rfl
 have f : ∀ k, (P.pivot r c).free k = if k = c then P.basic r else P.free k := fun _ => rfl
 refine ⟨fun i hi => ?_, fun k hk => ?_, fun i j hi hj e => ?_, fun i j hi hj e => ?_, fun i k hi hk => ?_, fun v hv => ?_⟩
 ·rw [b]; split
  ·exact h.flt c hc
  ·exact h.blt i hi
 ·rw [f]; split
  ·exact h.blt r hr
  ·exact h.flt k hk
 ·rw [b, b] at e
  split at e <;> split at e
  ·omega
  ·exact absurd e.symm (h.disj j c hj hc)
  ·exact absurd e (h.disj i c hi hc)
  ·exact h.binj i j hi hj e
 ·rw [f, f] at e
  split at e <;> split at e
  ·omega
  ·exact absurd e (h.disj r j hr hj)
  ·exact absurd e.symm (h.disj r i hr hi)
  ·exact h.finj i j hi hj e
 ·rw [b, f]
  by_cases h1 : i = r
  ·rw [if_pos h1]
   by_cases h2 : k = c
   ·rw [if_pos h2]; exact (h.disj r c hr hc).symm
   ·rw [if_neg h2]; exact fun e => h2 (h.finj k c hk hc e.symm)
  ·rw [if_neg h1]
   by_cases h2 : k = c
   ·rw [if_pos h2]; exact fun e => h1 (h.binj i r hi hr e)
   ·rw [if_neg h2]; exact h.disj i k hi hk
 ·rcases h.cover v hv with ⟨i, hi, e⟩ | ⟨k, hk, e⟩
  ·by_cases h1 : i = r
   ·right; exact ⟨c, hc, by rw [f, if_pos rfl, ← h1]; exact e⟩
   ·left; exact ⟨i, hi, by rw [b, if_neg h1]; exact e⟩
  ·by_cases h1 : k = c
   ·left; exact ⟨r, hr, by rw [b, if_pos rfl, ← h1]; exact e⟩
   ·right; exact ⟨k, hk, by rw [f, if_neg h1]; exact e⟩
theorem Pb.Pl.nb_basic {P : Pb} (h : P.Pl) {i : Nat} (hi : i < P.m) : ¬ P.nb (P.basic i) := fun ⟨k, hk, e⟩ => h.disj i k hi hk e.symm
theorem Pb.Pl.nb_pivot {P : Pb} (h : P.Pl) {r c : Nat} (hr : r < P.m) (hc : c < P.n) (j : Nat) : (P.pivot r c).nb j ↔ (P.nb j ∧ j ≠ P.free c) ∨ j = P.basic r := by
 have f : ∀ k, (P.pivot r c).free k = if k = c then P.basic r else P.free k := fun _ => rfl
 constructor
 ·rintro ⟨k, hk, e⟩
  rw [f] at e
  split at e
  ·exact Or.inr e.symm
  ·exact Or.inl ⟨⟨k, hk, e⟩, fun q => by rename_i hne; exact hne (h.finj k c hk hc (e.trans q))⟩
 ·rintro (⟨⟨k, hk, e⟩, hne⟩ | e)
  ·refine ⟨k, hk, ?_⟩
   rw [f, if_neg fun q => hne (by rw [← e, q])]; exact e
  ·exact ⟨c, hc, by rw [f, if_pos rfl]; exact e.symm⟩
/-- The same vectors satisfy it. -/
theorem Pb.pivot_tw {P : Pb} (h : P.Pl) {r c : Nat} (hr : r < P.m) (hc : c < P.n) (hz : P.T r c ≠ 0) (y : Nat → Rat) : P.TW y ↔ (P.pivot r c).TW y := by
 have zi : P.T r c * (P.T r c)⁻¹ = 1 := Rat.mul_inv_cancel _ hz
 -- the row r, solved for the column c
 have solve : y (P.basic r) = sm P.n (fun k => P.T r k * y (P.free k)) ↔
   y (P.free c) = sm P.n fun k => (if k = c then (P.T r c)⁻¹ else -(P.T r k * (P.T r c)⁻¹)) * y (if k = c then P.basic r else P.free k) := by
  rw [sm_split hc, sm_split hc (fun k => (if k = c then (P.T r c)⁻¹ else -(P.T r k * (P.T r c)⁻¹)) * y (if k = c then P.basic r else P.free k))]
  have e : sm P.n (fun k => if k = c then (0 : Rat) else (if k = c then (P.T r c)⁻¹ else -(P.T r k * (P.T r c)⁻¹)) * y (if k = c then P.basic r else P.free k)) = -(P.T r c)⁻¹ * sm P.n (fun k => if k = c then 0 else P.T r k * y (P.free k)) := by
   rw [← sm_mul]
   refine sm_congr fun k _ => ?_
   by_cases q : k = c
   ·simp [q]
   ·simp only [if_neg q]; grind
  rw [e]
  simp only [if_true]
  generalize sm P.n (fun k => if k = c then 0 else P.T r k * y (P.free k)) = S
  generalize P.T r c = t at *
  generalize t⁻¹ = u at *
  constructor
  ·intro q; rw [q]
   have : u * (S + t * y (P.free c)) = u * S + (t * u) * y (P.free c) := by grind
   rw [zi] at this; grind
  ·intro q; rw [q]
   have : t * (-u * S + u * y (P.basic r)) = -(t * u) * S + (t * u) * y (P.basic r) := by grind
   rw [zi] at this; grind
 have other : ∀ i, i ≠ r → y (P.free c) = sm P.n (fun k => (if k = c then (P.T r c)⁻¹ else -(P.T r k * (P.T r c)⁻¹)) * y (if k = c then P.basic r else P.free k)) →
   sm P.n (fun k => P.T i k * y (P.free k)) = sm P.n fun k => ((if k = c then 0 else P.T i k) + P.T i c * (if k = c then (P.T r c)⁻¹ else -(P.T r k * (P.T r c)⁻¹))) * y (if k = c then P.basic r else P.free k) := by
  intro i _ hy
  have e : sm P.n (fun k => ((if k = c then 0 else P.T i k) + P.T i c * (if k = c then (P.T r c)⁻¹ else -(P.T r k * (P.T r c)⁻¹))) * y (if k = c then P.basic r else P.free k)) =
    sm P.n (fun k => if k = c then 0 else P.T i k * y (P.free k)) + P.T i c * y (P.free c) := by
   rw [hy, ← sm_mul, ← sm_add]
   refine sm_congr fun k _ => ?_
   by_cases q : k = c
   ·simp only [if_pos q]; grind
   ·simp only [if_neg q]; grind
  rw [e, sm_split hc]
 constructor
 ·intro H i hi
  by_cases q : i = r
  ·subst q
   have := solve.1 (H i hi)
   simp only [Pb.pivot, if_true]
   exact this
  ·have h1 := other i q (solve.1 (H r hr))
   have := H i hi
   simp only [Pb.pivot, if_neg q]
   rw [this, h1]
 ·intro H
  have hr' := H r hr
  simp only [Pb.pivot, if_true] at hr'
  intro i hi
  by_cases q : i = r
  ·subst q
   exact solve.2 hr'
  ·have h1 := other i q hr'
   have := H i hi
   simp only [Pb.pivot, if_neg q] at this
   rw [this, h1]
theorem Pb.pivot_tv {P : Pb} (h : P.Pl) {r c : Nat} (hr : r < P.m) (hc : c < P.n) (hz : P.T r c ≠ 0) (y : Nat → V) : P.TV y ↔ (P.pivot r c).TV y := by
 unfold Pb.TV; rw [Pb.pivot_tw h hr hc hz, Pb.pivot_tw h hr hc hz]
/-- A move of column c's variable, and of all others with it. -/
def Pb.move (P : Pb) (c : Nat) (by_ : V) : Pb :=
 { P with now := fun j => if j = P.free c then (P.now j).add by_ else V.add (P.now j) (V.mul (sm P.m fun i => if P.basic i = j then P.T i c else 0) by_) }
end Go.Proofs.Ytijdglogadnbcaa.Bl
namespace Go.Proofs.Ytijdglogadnbcaa
open Go.RowKit Nt Bl
/-- What a number's three cells hold. -/
structure Nw where
 s : Bool
 a : Option Addr
 n : Nat
 c : Nat
 b : Option Addr
 m : Nat
 d : Nat
def RA (w : World) (q : Rat) (N : Nw) : Prop := RAt w q N.s N.a N.n N.c N.b N.m N.d
/-- A block of cells of one element type that may be written. -/
def Blk (w : World) (g ty : Nat) : Prop := ∃ arr, w.heap[g]? = some (.cells arr ty (0, 0))
theorem Blk.free {w : World} {g ty : Nat} (h : Blk w g ty) (i : Nat) : w.frozen? ⟨g, i, none⟩ = false := by
 obtain ⟨arr, h⟩ := h
 simp [World.frozen?, h]
theorem Blk.lt {w : World} {g ty : Nat} (h : Blk w g ty) : g < w.heap.size := by
 obtain ⟨arr, h⟩ := h
 exact (Array.getElem?_eq_some_iff.1 h).1
theorem Blk.ne {w : World} {g g' ty ty' : Nat} (h : Blk w g ty) (h' : Blk w g' ty') (hne : ty ≠ ty') : g ≠ g' := by
 obtain ⟨arr, h⟩ := h
 obtain ⟨arr', h'⟩ := h'
 rintro rfl
 rw [h] at h'
 simp only [Option.some.injEq, Obj.cells.injEq] at h'
 exact hne h'.2.1
theorem Blk.keep {w w' : World} {g ty : Nat} (h : Blk w g ty) (e : w'.heap[g]? = w.heap[g]?) : Blk w' g ty := by
 obtain ⟨arr, h⟩ := h
 exact ⟨arr, e.trans h⟩
theorem Blk.setCell {w : World} {g ty : Nat} (h : Blk w g ty) (b i : Nat) (v : Value) : Blk (w.setCell ⟨b, i, none⟩ v) g ty := by
 by_cases e : g = b
 ·subst e
  obtain ⟨arr, h⟩ := h
  exact ⟨_, heap_setCell_same w g i arr ty v h⟩
 ·exact h.keep (heap_setCell_other _ _ _ _ e)
theorem Blk.setCells {g ty b : Nat} : ∀ (vs : List Value) (o : Nat) (w : World), Blk w g ty → Blk (w.setCells b o vs) g ty
 | [], _, _, h => h
 | v :: vs, o, w, h => Blk.setCells vs (o + 1) _ (h.setCell b o v)
theorem heap_setCells_other {b k : Nat} (hk : k ≠ b) : ∀ (vs : List Value) (o : Nat) (w : World), (w.setCells b o vs).heap[k]? = w.heap[k]?
 | [], _, _ => rfl
 | v :: vs, o, w => (heap_setCells_other hk vs (o + 1) _).trans (heap_setCell_other _ _ _ _ hk)
theorem below_setCells {b k : Nat} {w0 : World} (hk : k ≤ b) : ∀ (vs : List Value) (o : Nat) (w : World), Below k w0 w → Below k w0 (w.setCells b o vs)
 | [], _, _, h => h
 | v :: vs, o, w, h => below_setCells hk vs (o + 1) _ (h.setCell hk v)
/-- Cells o.. of block g have been written. -/
structure Wr (w w' : World) (g o : Nat) (vs : List Value) : Prop where
 oth : ∀ b, b ≠ g → w'.heap[b]? = w.heap[b]?
 rest : ∀ j, (j < o ∨ o + vs.length ≤ j) → w'.cell? ⟨g, j, none⟩ = w.cell? ⟨g, j, none⟩
 new : ∀ j, j < vs.length → w'.cell? ⟨g, o + j, none⟩ = vs[j]?
 blk : ∀ k ty, Blk w k ty → Blk w' k ty
 bel : ∀ k w0, k ≤ g → Below k w0 w → Below k w0 w'
theorem wr_cells (w : World) (g o : Nat) (vs : List Value) (hex : ∀ j, j < vs.length → (w.cell? ⟨g, o + j, none⟩).isSome = true) : Wr w (w.setCells g o vs) g o vs where
 oth b hb := heap_setCells_other hb vs o w
 rest j hj := World.cell?_setCells_out g vs o w ⟨g, j, none⟩ fun _ _ => hj
 new j hj := by rw [World.cell?_setCells_in g vs o w hex j hj, List.getElem?_eq_getElem hj]
 blk k ty h := h.setCells vs o w
 bel k w0 hk h := below_setCells hk vs o w h
/-- Limbs stay. -/
def Limb (w w' : World) : Prop := ∀ b o x, w.cell? ⟨b, o, none⟩ = some (.int .u32 x) → w'.cell? ⟨b, o, none⟩ = some (.int .u32 x)
theorem Limb.refl (w : World) : Limb w w := fun _ _ _ h => h
theorem Limb.trans {a b c : World} (h : Limb a b) (k : Limb b c) : Limb a c := fun i o x e => k i o x (h i o x e)
theorem Limb.of_below {w w' : World} (hb : Below w.heap.size w w') : Limb w w' := fun _ _ _ h => cell_later hb (Nat.le_refl _) h
theorem UAt.limb {w w' : World} {l : List Nat} {a : Option Addr} (h : UAt w l a) (hl : Limb w w') : UAt w' l a := by
 intro hne
 obtain ⟨b, o, e, d⟩ := h hne
 exact ⟨b, o, e, fun i hi => hl _ _ _ (d i hi)⟩
theorem LAt.limb {w w' : World} {l : List Nat} {a : Option Addr} {n c : Nat} (h : LAt w l a n c) (hl : Limb w w') : LAt w' l a n c := ⟨h.at_.limb hl, h.len, h.le, h.cap, h.lm⟩
theorem RA.limb {w w' : World} {q : Rat} {N : Nw} (h : RA w q N) (hl : Limb w w') : RA w' q N := ⟨h.sg, h.num.limb hl, h.den.limb hl⟩
theorem Wr.limb {w w' : World} {g o : Nat} {vs : List Value} (h : Wr w w' g o vs) (old : ∀ j x, j < vs.length → w.cell? ⟨g, o + j, none⟩ ≠ some (.int .u32 x)) : Limb w w' := by
 intro b i x e
 by_cases hb : b = g
 ·subst hb
  by_cases hi : i < o ∨ o + vs.length ≤ i
  ·rw [h.rest i hi]; exact e
  ·obtain ⟨j, rfl⟩ : ∃ j, i = o + j := ⟨i - o, by omega⟩
   exact absurd e (old j x (by omega))
 ·rw [World.cell?_of_block (h.oth b hb)]; exact e
/-- A number in three cells. -/
def NumC (w : World) (g o : Nat) (q : Rat) : Prop := ∃ N : Nw, w.cell? ⟨g, o, none⟩ = some (.bool N.s) ∧ w.cell? ⟨g, o + 1, none⟩ = some (.slice N.a N.n N.c) ∧ w.cell? ⟨g, o + 2, none⟩ = some (.slice N.b N.m N.d) ∧ RA w q N
theorem NumC.keep {w w' : World} {g o : Nat} {q : Rat} (h : NumC w g o q) (hc : ∀ j, j < 3 → w'.cell? ⟨g, o + j, none⟩ = w.cell? ⟨g, o + j, none⟩) (hl : Limb w w') : NumC w' g o q := by
 obtain ⟨N, a, b, c, d⟩ := h
 exact ⟨N, (hc 0 (by omega)).trans a, (hc 1 (by omega)).trans b, (hc 2 (by omega)).trans c, d.limb hl⟩
theorem NumC.notu {w : World} {g o : Nat} {q : Rat} (h : NumC w g o q) (j : Nat) (hj : j < 3) (x : Int) : w.cell? ⟨g, o + j, none⟩ ≠ some (.int .u32 x) := by
 obtain ⟨N, a, b, c, d⟩ := h
 rcases j with _ | _ | _ | j
 ·rw [show o + 0 = o from rfl, a]; simp
 ·rw [b]; simp
 ·rw [show o + (0 + 1 + 1) = o + 2 from rfl, c]; simp
 ·omega
/-- A value in six cells. -/
def ValC (w : World) (g o : Nat) (v : V) : Prop := NumC w g o v.m ∧ NumC w g (o + 3) v.s
theorem ValC.keep {w w' : World} {g o : Nat} {v : V} (h : ValC w g o v) (hc : ∀ j, j < 6 → w'.cell? ⟨g, o + j, none⟩ = w.cell? ⟨g, o + j, none⟩) (hl : Limb w w') : ValC w' g o v :=
 ⟨h.1.keep (fun j hj => hc j (by omega)) hl, h.2.keep (fun j hj => by have := hc (3 + j) (by omega); rwa [← Nat.add_assoc] at this) hl⟩
theorem ValC.notu {w : World} {g o : Nat} {v : V} (h : ValC w g o v) (j : Nat) (hj : j < 6) (x : Int) : w.cell? ⟨g, o + j, none⟩ ≠ some (.int .u32 x) := by
 by_cases h3 : j < 3
 ·exact h.1.notu j h3 x
 ·obtain ⟨k, rfl⟩ : ∃ k, j = 3 + k := ⟨j - 3, by omega⟩
  rw [← Nat.add_assoc]; exact h.2.notu k (by omega) x
/-- An end of a range in seven cells. -/
def BndC (w : World) (g o : Nat) : Option V → Prop
 | none => w.cell? ⟨g, o, none⟩ = some (.bool false) ∧ ∃ M S : Nw, w.cell? ⟨g, o + 1, none⟩ = some (.bool M.s) ∧ w.cell? ⟨g, o + 2, none⟩ = some (.slice M.a M.n M.c) ∧ w.cell? ⟨g, o + 3, none⟩ = some (.slice M.b M.m M.d) ∧
   w.cell? ⟨g, o + 4, none⟩ = some (.bool S.s) ∧ w.cell? ⟨g, o + 5, none⟩ = some (.slice S.a S.n S.c) ∧ w.cell? ⟨g, o + 6, none⟩ = some (.slice S.b S.m S.d)
 | some v => w.cell? ⟨g, o, none⟩ = some (.bool true) ∧ ValC w g (o + 1) v
theorem BndC.keep {w w' : World} {g o : Nat} {v : Option V} (h : BndC w g o v) (hc : ∀ j, j < 7 → w'.cell? ⟨g, o + j, none⟩ = w.cell? ⟨g, o + j, none⟩) (hl : Limb w w') : BndC w' g o v := by
 cases v with
 | none =>
  obtain ⟨a, M, S, b, c, d, e, f, i⟩ := h
  exact ⟨(hc 0 (by omega)).trans a, M, S, (hc 1 (by omega)).trans b, (hc 2 (by omega)).trans c, (hc 3 (by omega)).trans d, (hc 4 (by omega)).trans e, (hc 5 (by omega)).trans f, (hc 6 (by omega)).trans i⟩
 | some v => exact ⟨(hc 0 (by omega)).trans h.1, h.2.keep (fun j hj => by have := hc (1 + j) (by omega); rwa [← Nat.add_assoc] at this) hl⟩
theorem cells_same {w w' : World} {g : Nat} (e : w'.heap[g]? = w.heap[g]?) (i : Nat) : w'.cell? ⟨g, i, none⟩ = w.cell? ⟨g, i, none⟩ := World.cell?_of_block e
/-- Values in a row. -/
structure NowR (ty : Nat) (w : World) (g N : Nat) (f : Nat → V) : Prop where
 blk : Blk w g ty
 at_ : ∀ v, v < N → ValC w g (v * 6) (f v)
theorem NowR.keep {ty : Nat} {w w' : World} {g N : Nat} {f : Nat → V} (h : NowR ty w g N f) (e : w'.heap[g]? = w.heap[g]?) (hl : Limb w w') : NowR ty w' g N f :=
 ⟨h.blk.keep e, fun v hv => (h.at_ v hv).keep (fun j _ => cells_same e _) hl⟩
def Nw.cs (N : Nw) : List Value := [.bool N.s, .slice N.a N.n N.c, .slice N.b N.m N.d]
theorem NowR.limb {ty : Nat} {w w' : World} {g N v : Nat} {f : Nat → V} {M S : Nw} (h : NowR ty w g N f) (hv : v < N) (hw : Wr w w' g (v * 6) (M.cs ++ S.cs)) : Limb w w' :=
 hw.limb fun j x hj => (h.at_ v hv).notu j (by simpa [Nw.cs] using hj) x
theorem num_new {w w' : World} {g o : Nat} {q : Rat} {N : Nw} (h0 : w'.cell? ⟨g, o, none⟩ = some (.bool N.s)) (h1 : w'.cell? ⟨g, o + 1, none⟩ = some (.slice N.a N.n N.c)) (h2 : w'.cell? ⟨g, o + 2, none⟩ = some (.slice N.b N.m N.d)) (h : RA w q N) (hl : Limb w w') : NumC w' g o q :=
 ⟨N, h0, h1, h2, h.limb hl⟩
theorem NowR.set {ty : Nat} {w w' : World} {g N v : Nat} {f : Nat → V} {M S : Nw} {x : V} (h : NowR ty w g N f) (hv : v < N) (hw : Wr w w' g (v * 6) (M.cs ++ S.cs)) (hm : RA w x.m M) (hs : RA w x.s S) : NowR ty w' g N (fun j => if j = v then x else f j) := by
 have hl := h.limb hv hw
 refine ⟨hw.blk _ _ h.blk, fun j hj => ?_⟩
 by_cases e : j = v
 ·subst e
  simp only [if_true]
  exact ⟨num_new (hw.new 0 (by simp [Nw.cs])) (hw.new 1 (by simp [Nw.cs])) (hw.new 2 (by simp [Nw.cs])) hm hl, num_new (hw.new 3 (by simp [Nw.cs])) (hw.new 4 (by simp [Nw.cs])) (hw.new 5 (by simp [Nw.cs])) hs hl⟩
 ·simp only [if_neg e]
  exact (h.at_ j hj).keep (fun i hi => hw.rest _ (by simp [Nw.cs]; omega)) hl
/-- Integers in a row. -/
structure IntR (w : World) (g N : Nat) (f : Nat → Nat) : Prop where
 blk : Blk w g 3
 at_ : ∀ i, i < N → w.cell? ⟨g, i, none⟩ = some (.int .i64 ((f i : Nat) : Int))
theorem IntR.keep {w w' : World} {g N : Nat} {f : Nat → Nat} (h : IntR w g N f) (e : w'.heap[g]? = w.heap[g]?) : IntR w' g N f :=
 ⟨h.blk.keep e, fun v hv => (cells_same e v).trans (h.at_ v hv)⟩
theorem IntR.limb {w w' : World} {g N i x : Nat} {f : Nat → Nat} (h : IntR w g N f) (hi : i < N) (hw : Wr w w' g i [.int .i64 (x : Int)]) : Limb w w' :=
 hw.limb fun j y hj => by
  have : j = 0 := by simpa using hj
  subst this
  rw [Nat.add_zero, h.at_ i hi]; simp
theorem IntR.set {w w' : World} {g N i x : Nat} {f : Nat → Nat} (h : IntR w g N f) (hi : i < N) (hw : Wr w w' g i [.int .i64 (x : Int)]) : IntR w' g N (fun j => if j = i then x else f j) := by
 refine ⟨hw.blk _ _ h.blk, fun j hj => ?_⟩
 by_cases e : j = i
 ·subst e; simp only [if_true]; exact hw.new 0 (by simp)
 ·simp only [if_neg e]
  rw [hw.rest j (by simp; omega)]; exact h.at_ j hj
/-- A line of the table. -/
structure LineR (w : World) (g n : Nat) (f : Nat → Rat) : Prop where
 blk : Blk w g 26
 at_ : ∀ k, k < n → NumC w g (k * 3) (f k)
theorem LineR.keep {w w' : World} {g n : Nat} {f : Nat → Rat} (h : LineR w g n f) (e : w'.heap[g]? = w.heap[g]?) (hl : Limb w w') : LineR w' g n f :=
 ⟨h.blk.keep e, fun v hv => (h.at_ v hv).keep (fun j _ => cells_same e _) hl⟩
theorem LineR.limb {w w' : World} {g n k : Nat} {f : Nat → Rat} {M : Nw} (h : LineR w g n f) (hk : k < n) (hw : Wr w w' g (k * 3) M.cs) : Limb w w' :=
 hw.limb fun j x hj => (h.at_ k hk).notu j (by simpa [Nw.cs] using hj) x
theorem LineR.set {w w' : World} {g n k : Nat} {f : Nat → Rat} {M : Nw} {x : Rat} (h : LineR w g n f) (hk : k < n) (hw : Wr w w' g (k * 3) M.cs) (hm : RA w x M) : LineR w' g n (fun j => if j = k then x else f j) := by
 have hl := h.limb hk hw
 refine ⟨hw.blk _ _ h.blk, fun j hj => ?_⟩
 by_cases e : j = k
 ·subst e
  simp only [if_true]
  exact num_new (hw.new 0 (by simp [Nw.cs])) (hw.new 1 (by simp [Nw.cs])) (hw.new 2 (by simp [Nw.cs])) hm hl
 ·simp only [if_neg e]
  exact (h.at_ j hj).keep (fun i hi => hw.rest _ (by simp [Nw.cs]; omega)) hl
/-- Ends of ranges in a row. -/
structure BndR (ty : Nat) (w : World) (g N : Nat) (f : Nat → Option V) : Prop where
 blk : Blk w g ty
 at_ : ∀ v, v < N → BndC w g (v * 7) (f v)
theorem BndR.keep {ty : Nat} {w w' : World} {g N : Nat} {f : Nat → Option V} (h : BndR ty w g N f) (e : w'.heap[g]? = w.heap[g]?) (hl : Limb w w') : BndR ty w' g N f :=
 ⟨h.blk.keep e, fun v hv => (h.at_ v hv).keep (fun j _ => cells_same e _) hl⟩
end Go.Proofs.Ytijdglogadnbcaa
