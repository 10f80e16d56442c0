/- Natural numbers as lists of digits in base 2^16: the reference. No program. -/
import Derived.Test.YtijdglogadnbcaaZ01
import Derived.Test.YtijdglogadnbcaaZ02
import Derived.Test.YtijdglogadnbcaaZ03
import Derived.Test.YtijdglogadnbcaaZ04
set_option linter.unusedVariables false
set_option linter.unusedSimpArgs false
set_option maxRecDepth 100000
set_option maxHeartbeats 40000000
namespace Go.Proofs.Ytijdglogadnbcaa.Nh
/-- The number of limbs, the least significant one first. -/
def vl : List Nat → Nat
 | [] => 0
 | x :: l => x + 65536 * vl l
def Lm (l : List Nat) : Prop := ∀ x ∈ l, x < 65536
/-- The limbs of a number. -/
def toL (n : Nat) : List Nat := if h : n = 0 then [] else n % 65536 :: toL (n / 65536)
termination_by n
decreasing_by omega
theorem toL_zero : toL 0 = [] := by rw [toL]; simp
theorem toL_pos {n : Nat} (h : n ≠ 0) : toL n = n % 65536 :: toL (n / 65536) := by rw [toL]; simp [h]
theorem toL_lm (n : Nat) : Lm (toL n) := by
 induction n using Nat.strongRecOn with
 | _ n ih =>
  by_cases h : n = 0
  ·subst h; rw [toL_zero]; intro x hx; simp at hx
  ·rw [toL_pos h]
   intro x hx
   rcases List.mem_cons.1 hx with e | e
   ·rw [e]; exact Nat.mod_lt _ (by omega)
   ·exact ih (n / 65536) (by omega) x e
theorem vl_toL (n : Nat) : vl (toL n) = n := by
 induction n using Nat.strongRecOn with
 | _ n ih =>
  by_cases h : n = 0
  ·subst h; rw [toL_zero]; rfl
  ·rw [toL_pos h]
   show n % 65536 + 65536 * vl (toL (n / 65536)) = n
   rw [ih (n / 65536) (by omega)]
   omega
/-- Without last limbs that are 0. -/
def trm (l : List Nat) : List Nat := toL (vl l)
theorem vl_append (a b : List Nat) : vl (a ++ b) = vl a + 65536 ^ a.length * vl b := by
 induction a with
 | nil => simp [vl]
 | cons x a ih =>
  simp only [List.cons_append, vl, ih, List.length_cons, Nat.pow_succ]
  rw [Nat.mul_add, Nat.add_assoc, ← Nat.mul_assoc, Nat.mul_comm 65536 (65536 ^ a.length)]
theorem vl_lt {l : List Nat} (h : Lm l) : vl l < 65536 ^ l.length := by
 induction l with
 | nil => simp [vl]
 | cons x l ih =>
  have h1 := ih fun y hy => h y (List.mem_cons_of_mem _ hy)
  have h2 := h x List.mem_cons_self
  simp only [vl, List.length_cons, Nat.pow_succ]
  generalize 65536 ^ l.length = p at *
  omega
theorem vl_zero_snoc (l : List Nat) : vl (l ++ [0]) = vl l := by rw [vl_append]; simp [vl]
theorem trm_cons {x : Nat} {l : List Nat} (hx : x < 65536) : trm (x :: l) = if x = 0 ∧ vl l = 0 then [] else x :: trm l := by
 unfold trm
 have e : vl (x :: l) = x + 65536 * vl l := rfl
 rw [e]
 by_cases h : x = 0 ∧ vl l = 0
 ·rw [if_pos h, h.1, h.2]; exact toL_zero
 ·rw [if_neg h, toL_pos (by omega)]
  congr 1
  ·omega
  ·congr 1; omega
/-- A last limb other than 0: nothing to trim. -/
theorem trm_id {l : List Nat} (hl : Lm l) (h : l = [] ∨ l.getLast? ≠ some 0) : trm l = l := by
 induction l with
 | nil => unfold trm; exact toL_zero
 | cons x l ih =>
  rw [trm_cons (hl x List.mem_cons_self)]
  have hl2 : Lm l := fun y hy => hl y (List.mem_cons_of_mem _ hy)
  have h := h.resolve_left (by simp)
  by_cases he : l = []
  ·subst he
   rw [if_neg (by intro q; apply h; simp [q.1])]
   unfold trm; rw [show vl [] = 0 from rfl, toL_zero]
  ·have h2 : l.getLast? ≠ some 0 := by
    intro q; apply h
    rw [List.getLast?_cons_of_ne_nil he]; exact q
   have := ih hl2 (Or.inr h2)
   rw [if_neg, this]
   intro q
   have : trm l = [] := by unfold trm; rw [q.2]; exact toL_zero
   rw [ih hl2 (Or.inr h2)] at this
   exact he this
theorem trm_snoc_zero (l : List Nat) : trm (l ++ [0]) = trm l := by unfold trm; rw [vl_zero_snoc]
theorem toL_last (n : Nat) : toL n = [] ∨ (toL n).getLast? ≠ some 0 := by
 induction n using Nat.strongRecOn with
 | _ n ih =>
  by_cases h : n = 0
  ·left; subst h; exact toL_zero
  ·right
   rw [toL_pos h]
   rcases ih (n / 65536) (by omega) with e | e
   ·rw [e]
    have : n / 65536 = 0 := by have := vl_toL (n / 65536); rw [e] at this; exact this.symm
    simp; omega
   ·by_cases he : toL (n / 65536) = []
    ·rw [he] at e ⊢
     have : n / 65536 = 0 := by have := vl_toL (n / 65536); rw [he] at this; exact this.symm
     simp; omega
    ·rw [List.getLast?_cons_of_ne_nil he]; exact e
theorem toL_inj {a b : Nat} (h : toL a = toL b) : a = b := by rw [← vl_toL a, ← vl_toL b, h]
theorem toL_len {n k : Nat} (h : n < 65536 ^ k) : (toL n).length ≤ k := by
 induction k generalizing n with
 | zero => simp at h; subst h; rw [toL_zero]; simp
 | succ k ih =>
  by_cases h0 : n = 0
  ·subst h0; rw [toL_zero]; simp
  ·rw [toL_pos h0, List.length_cons]
   have : n / 65536 < 65536 ^ k := by
    rw [Nat.pow_succ] at h
    exact Nat.div_lt_of_lt_mul (by rw [Nat.mul_comm]; exact h)
   have := ih this
   omega
theorem toL_len_le {a b : Nat} (h : a ≤ b) : (toL a).length ≤ (toL b).length := by
 refine toL_len (Nat.lt_of_le_of_lt h ?_)
 have := vl_lt (toL_lm b)
 rwa [vl_toL] at this
theorem toL_ge {n : Nat} (h : n ≠ 0) : 65536 ^ ((toL n).length - 1) ≤ n := by
 refine Nat.le_of_not_lt fun q => ?_
 have := toL_len q
 have h2 : (toL n).length ≠ 0 := fun e => h (by have := vl_toL n; rw [List.length_eq_zero_iff.1 e] at this; exact this.symm)
 omega
/-- The order, from the most significant limb on. -/
theorem lt_of_len {a b : Nat} (h : (toL a).length < (toL b).length) : a < b := by
 refine Nat.lt_of_not_le fun q => ?_
 have := toL_len_le q
 omega
theorem top_lt {a b : List Nat} {k : Nat} (ha : Lm a) (hb : Lm b) (h1 : k < a.length) (h2 : a.length = b.length) (hd : a.drop (k + 1) = b.drop (k + 1)) (hx : a.getD k 0 < b.getD k 0) : vl a < vl b := by
 have e : ∀ l : List Nat, k < l.length → l = l.take k ++ l.getD k 0 :: l.drop (k + 1) := fun l hl => by
  have := List.take_append_drop k l
  rw [List.drop_eq_getElem_cons hl] at this
  rw [List.getD_eq_getElem?_getD, List.getElem?_eq_getElem hl]
  exact this.symm
 rw [e a h1, e b (by omega), vl_append, vl_append, hd]
 have la : vl (a.take k) < 65536 ^ (a.take k).length := vl_lt fun x hx => ha x (List.mem_of_mem_take hx)
 have l1 : (a.take k).length = k := by rw [List.length_take]; omega
 have l2 : (b.take k).length = k := by rw [List.length_take]; omega
 rw [l1] at la ⊢
 rw [l2]
 simp only [vl]
 have := Nat.mul_le_mul_left (65536 ^ k) (show a.getD k 0 + 65536 * vl (b.drop (k + 1)) + 1 ≤ b.getD k 0 + 65536 * vl (b.drop (k + 1)) by omega)
 rw [Nat.mul_add (65536 ^ k) _ 1] at this
 omega
theorem vl_snoc (l : List Nat) (x : Nat) : vl (l ++ [x]) = vl l + 65536 ^ l.length * x := by rw [vl_append]; simp [vl]
theorem vl_take_succ (l : List Nat) (i : Nat) : vl (l.take (i + 1)) = vl (l.take i) + 65536 ^ i * l.getD i 0 := by
 by_cases h : i < l.length
 ·rw [List.take_succ_eq_append_getElem h, vl_snoc, List.length_take, Nat.min_eq_left (by omega), List.getD_eq_getElem?_getD, List.getElem?_eq_getElem h]; rfl
 ·rw [List.take_of_length_le (by omega), List.take_of_length_le (by omega), List.getD_eq_getElem?_getD, List.getElem?_eq_none (by omega)]; simp
theorem lm_getD {l : List Nat} (h : Lm l) (i : Nat) : l.getD i 0 < 65536 := by
 by_cases hi : i < l.length
 ·rw [List.getD_eq_getElem?_getD, List.getElem?_eq_getElem hi]; exact h _ (List.getElem_mem hi)
 ·rw [List.getD_eq_getElem?_getD, List.getElem?_eq_none (by omega)]; simp
theorem lm_snoc {l : List Nat} {x : Nat} (h : Lm l) (hx : x < 65536) : Lm (l ++ [x]) := fun y hy => by
 rcases List.mem_append.1 hy with e | e
 ·exact h y e
 ·simp at e; omega
theorem carry_eq (p s : Nat) : p * (s % 65536) + (s / 65536) * (p * 65536) = p * s := by
 have e1 : p * s = p * (65536 * (s / 65536)) + p * (s % 65536) := by rw [← Nat.mul_add, Nat.div_add_mod]
 have e2 : (s / 65536) * (p * 65536) = p * (65536 * (s / 65536)) := by rw [Nat.mul_comm, Nat.mul_assoc]
 rw [e1, e2, Nat.add_comm]
/-- Adding, on the way. -/
structure AddI (a b : List Nat) (i : Nat) (ds : List Nat) (c : Nat) : Prop where
 len : ds.length = i
 lm : Lm ds
 c1 : c ≤ 1
 eq : vl ds + c * 65536 ^ i = vl (a.take i) + vl (b.take i)
theorem AddI.nil (a b : List Nat) : AddI a b 0 [] 0 := ⟨rfl, fun x hx => by simp at hx, by omega, by simp [vl]⟩
theorem AddI.step {a b : List Nat} (ha : Lm a) (hb : Lm b) {i c : Nat} {ds : List Nat} (h : AddI a b i ds c) :
  AddI a b (i + 1) (ds ++ [(c + a.getD i 0 + b.getD i 0) % 65536]) ((c + a.getD i 0 + b.getD i 0) / 65536) := by
 have h1 := lm_getD ha i
 have h2 := lm_getD hb i
 have h3 := h.c1
 refine ⟨by simp [h.len], lm_snoc h.lm (Nat.mod_lt _ (by omega)), by omega, ?_⟩
 rw [vl_snoc, h.len, vl_take_succ, vl_take_succ, Nat.pow_succ]
 have e := carry_eq (65536 ^ i) (c + a.getD i 0 + b.getD i 0)
 have q := h.eq
 rw [Nat.mul_add, Nat.mul_add, Nat.mul_comm (65536 ^ i) c] at e
 omega
theorem AddI.done {a b : List Nat} {n c : Nat} {ds : List Nat} (h : AddI a b n ds c) (ha : a.length ≤ n) (hb : b.length ≤ n) (hlt : vl a + vl b < 65536 ^ n) : c = 0 ∧ vl ds = vl a + vl b := by
 have q := h.eq
 rw [List.take_of_length_le ha, List.take_of_length_le hb] at q
 have : c = 0 := by
  rcases Nat.eq_zero_or_pos c with e | e
  ·exact e
  ·have := Nat.le_mul_of_pos_left (65536 ^ n) e
   omega
 subst this
 exact ⟨rfl, by simpa using q⟩
theorem add_fits {a b : List Nat} (ha : Lm a) (hb : Lm b) (hl : b.length ≤ a.length) : vl a + vl b < 65536 ^ (a.length + 1) := by
 have h1 := vl_lt ha
 have h2 := vl_lt hb
 have h3 : 65536 ^ b.length ≤ 65536 ^ a.length := Nat.pow_le_pow_right (by omega) hl
 rw [Nat.pow_succ]
 omega
/-- Subtracting, on the way. -/
structure SubI (a b : List Nat) (i : Nat) (ds : List Nat) (r : Nat) : Prop where
 len : ds.length = i
 lm : Lm ds
 r1 : r ≤ 1
 eq : vl (a.take i) + r * 65536 ^ i = vl ds + vl (b.take i)
theorem SubI.nil (a b : List Nat) : SubI a b 0 [] 0 := ⟨rfl, fun x hx => by simp at hx, by omega, by simp [vl]⟩
/-- d: the limb; r': what is borrowed. -/
theorem SubI.step {a b : List Nat} {i r d r' : Nat} {ds : List Nat} (h : SubI a b i ds r) (hd : d < 65536) (hr : r' ≤ 1) (he : a.getD i 0 + r' * 65536 = d + b.getD i 0 + r) :
  SubI a b (i + 1) (ds ++ [d]) r' := by
 refine ⟨by simp [h.len], lm_snoc h.lm hd, hr, ?_⟩
 rw [vl_snoc, h.len, vl_take_succ, vl_take_succ, Nat.pow_succ]
 have q := h.eq
 have e := congrArg (65536 ^ i * ·) he
 simp only [Nat.mul_add] at e
 have e2 : r' * (65536 ^ i * 65536) = 65536 ^ i * (r' * 65536) := by rw [Nat.mul_comm r', Nat.mul_assoc, Nat.mul_comm 65536 r']
 rw [e2]
 rw [Nat.mul_comm r] at q
 omega
theorem SubI.done {a b : List Nat} {n r : Nat} {ds : List Nat} (h : SubI a b n ds r) (ha : a.length ≤ n) (hb : b.length ≤ n) (hle : vl b ≤ vl a) : r = 0 ∧ vl ds = vl a - vl b := by
 have q := h.eq
 rw [List.take_of_length_le ha, List.take_of_length_le hb] at q
 have hl := vl_lt h.lm
 rw [h.len] at hl
 have : r = 0 := by
  rcases Nat.eq_zero_or_pos r with e | e
  ·exact e
  ·have := Nat.le_mul_of_pos_left (65536 ^ n) e
   omega
 subst this
 exact ⟨rfl, by omega⟩
/-- A list with one limb in another's place. -/
theorem vl_set {l : List Nat} {i x : Nat} (h : i < l.length) : vl (l.set i x) + 65536 ^ i * l.getD i 0 = vl l + 65536 ^ i * x := by
 have e : ∀ m : List Nat, i < m.length → vl m = vl (m.take i) + 65536 ^ i * m.getD i 0 + 65536 ^ (i + 1) * vl (m.drop (i + 1)) := fun m hm => by
  rw [← vl_take_succ]
  have := vl_append (m.take (i + 1)) (m.drop (i + 1))
  rw [List.take_append_drop, List.length_take, Nat.min_eq_left (by omega)] at this
  exact this
 rw [e (l.set i x) (by simpa using h), e l h, List.take_set_of_le (Nat.le_refl _), List.drop_set_of_lt (by omega)]
 rw [show (l.set i x).getD i 0 = x from by rw [List.getD_eq_getElem?_getD, List.getElem?_set_self h]; rfl]
 omega
theorem lm_set {l : List Nat} {i x : Nat} (h : Lm l) (hx : x < 65536) : Lm (l.set i x) := fun y hy => by
 rcases List.mem_or_eq_of_mem_set hy with e | e
 ·exact h y e
 ·omega
/-- Multiplying, on the way: a row i of which k limbs are done. -/
structure MulI (a b : List Nat) (n i k : Nat) (out : List Nat) (c : Nat) : Prop where
 len : out.length = n
 lm : Lm out
 c1 : c < 65536
 zero : ∀ j, i + b.length ≤ j → j < n → out.getD j 0 = 0
 eq : vl out + c * 65536 ^ (i + k) = vl (a.take i) * vl b + 65536 ^ i * (a.getD i 0 * vl (b.take k))
theorem mul_cap {x y o c : Nat} (hx : x < 65536) (hy : y < 65536) (ho : o < 65536) (hc : c < 65536) : c + x * y + o < 4294967296 ∧ (c + x * y + o) / 65536 < 65536 := by
 have : x * y ≤ 65535 * 65535 := Nat.mul_le_mul (by omega) (by omega)
 omega
theorem MulI.step {a b : List Nat} (ha : Lm a) (hb : Lm b) {n i k c : Nat} {out : List Nat} (h : MulI a b n i k out c) (hk : k < b.length) (hn : i + k < n) :
  MulI a b n i (k + 1) (out.set (i + k) ((c + a.getD i 0 * b.getD k 0 + out.getD (i + k) 0) % 65536)) ((c + a.getD i 0 * b.getD k 0 + out.getD (i + k) 0) / 65536) := by
 have h1 := mul_cap (lm_getD ha i) (lm_getD hb k) (lm_getD h.lm (i + k)) h.c1
 refine ⟨by simp [h.len], lm_set h.lm (Nat.mod_lt _ (by omega)), h1.2, fun j hj hjn => ?_, ?_⟩
 ·rw [List.getD_eq_getElem?_getD, List.getElem?_set_ne (by omega), ← List.getD_eq_getElem?_getD]
  exact h.zero j hj hjn
 ·have e1 := vl_set (l := out) (i := i + k) (x := (c + a.getD i 0 * b.getD k 0 + out.getD (i + k) 0) % 65536) (by rw [h.len]; exact hn)
  have e2 := carry_eq (65536 ^ (i + k)) (c + a.getD i 0 * b.getD k 0 + out.getD (i + k) 0)
  have q := h.eq
  rw [vl_take_succ, Nat.mul_add (a.getD i 0), Nat.mul_add (65536 ^ i), show i + (k + 1) = (i + k) + 1 from by omega, Nat.pow_succ]
  have e3 : 65536 ^ i * (a.getD i 0 * (65536 ^ k * b.getD k 0)) = 65536 ^ (i + k) * (a.getD i 0 * b.getD k 0) := by
   rw [Nat.pow_add]
   simp only [Nat.mul_assoc, Nat.mul_left_comm, Nat.mul_comm]
  rw [e3]
  rw [Nat.mul_add, Nat.mul_add, Nat.mul_comm (65536 ^ (i + k)) c] at e2
  omega
/-- The row's last limb. -/
theorem MulI.next {a b : List Nat} {n i c : Nat} {out : List Nat} (h : MulI a b n i b.length out c) (hn : i + b.length < n) :
  MulI a b n (i + 1) 0 (out.set (i + b.length) c) 0 := by
 refine ⟨by simp [h.len], lm_set h.lm h.c1, by omega, fun j hj hjn => ?_, ?_⟩
 ·rw [List.getD_eq_getElem?_getD, List.getElem?_set_ne (by omega), ← List.getD_eq_getElem?_getD]
  exact h.zero j (by omega) hjn
 ·have e1 := vl_set (l := out) (i := i + b.length) (x := c) (by rw [h.len]; exact hn)
  rw [h.zero _ (Nat.le_refl _) hn] at e1
  have q := h.eq
  rw [List.take_of_length_le (Nat.le_refl _)] at q
  rw [vl_take_succ, Nat.add_mul]
  have e3 : 65536 ^ i * a.getD i 0 * vl b = 65536 ^ i * (a.getD i 0 * vl b) := Nat.mul_assoc ..
  rw [e3]
  simp only [List.take_zero, vl, Nat.mul_zero, Nat.add_zero, Nat.zero_mul] at *
  rw [Nat.mul_comm c] at q
  omega
theorem MulI.nil {a b : List Nat} {n : Nat} : MulI a b n 0 0 (List.replicate n 0) 0 := by
 have z : ∀ m, vl (List.replicate m 0) = 0 := fun m => by induction m with | zero => rfl | succ m ih => simp [List.replicate_succ, vl, ih]
 refine ⟨by simp, fun x hx => by rw [List.mem_replicate] at hx; omega, by omega, fun j _ hj => ?_, ?_⟩
 ·rw [List.getD_eq_getElem?_getD, List.getElem?_replicate]; split <;> rfl
 ·rw [z]; simp [vl]
theorem MulI.done {a b : List Nat} {n : Nat} {out : List Nat} (h : MulI a b n a.length 0 out 0) : vl out = vl a * vl b := by
 have q := h.eq
 rw [List.take_of_length_le (Nat.le_refl _)] at q
 simpa [vl] using q
end Go.Proofs.Ytijdglogadnbcaa.Nh
/- The reference's natural numbers: order, halves, the greatest common divisor, binary digits. No program. -/
namespace Go.Proofs.Ytijdglogadnbcaa.Nh
theorem vh_ext {a b : List Nat} (h : ∀ j, a.getD j 0 = b.getD j 0) : vl a = vl b := by
 induction a generalizing b with
 | nil =>
  induction b with
  | nil => rfl
  | cons y b ih =>
   have h0 := h 0
   simp only [List.getD_cons_zero, List.getD_nil] at h0
   have := ih fun j => by have := h (j + 1); simpa using this
   simp only [vl] at this ⊢
   omega
 | cons x a ih =>
  cases b with
  | nil =>
   have h0 := h 0
   simp only [List.getD_cons_zero, List.getD_nil] at h0
   have := ih (b := []) fun j => by have := h (j + 1); simpa using this
   simp only [vl] at this ⊢
   omega
  | cons y b =>
   have h0 := h 0
   simp only [List.getD_cons_zero] at h0
   have := ih (b := b) fun j => by have := h (j + 1); simpa using this
   simp only [vl, h0, this]
theorem getD_drop (l : List Nat) (k j : Nat) : (l.drop k).getD j 0 = l.getD (k + j) 0 := by
 rw [List.getD_eq_getElem?_getD, List.getElem?_drop, ← List.getD_eq_getElem?_getD]
theorem vh_at (l : List Nat) (k : Nat) : vl l = vl (l.take k) + 65536 ^ k * (l.getD k 0 + 65536 * vl (l.drop (k + 1))) := by
 by_cases h : k < l.length
 ·have e := vl_append (l.take k) (l.drop k)
  rw [List.take_append_drop, List.length_take, Nat.min_eq_left (by omega)] at e
  rw [e, List.drop_eq_getElem_cons h, List.getD_eq_getElem?_getD, List.getElem?_eq_getElem h]; rfl
 ·rw [List.take_of_length_le (by omega), List.drop_of_length_le (by omega), List.getD_eq_getElem?_getD, List.getElem?_eq_none (by omega)]
  simp [vl]
theorem vh_take_lt {l : List Nat} (h : Lm l) (k : Nat) : vl (l.take k) < 65536 ^ k := by
 refine Nat.lt_of_lt_of_le (vl_lt fun x hx => h x (List.mem_of_mem_take hx)) (Nat.pow_le_pow_right (by omega) ?_)
 rw [List.length_take]; omega
/-- The first place, from the top, at which two numbers differ. -/
theorem top_lt' {a b : List Nat} {k : Nat} (ha : Lm a) (hd : ∀ j, k < j → a.getD j 0 = b.getD j 0) (hx : a.getD k 0 < b.getD k 0) : vl a < vl b := by
 rw [vh_at a k, vh_at b k]
 have e : vl (a.drop (k + 1)) = vl (b.drop (k + 1)) := vh_ext fun j => by rw [getD_drop, getD_drop]; exact hd _ (by omega)
 rw [e]
 have la := vh_take_lt ha k
 have := Nat.mul_le_mul_left (65536 ^ k) (show a.getD k 0 + 65536 * vl (b.drop (k + 1)) + 1 ≤ b.getD k 0 + 65536 * vl (b.drop (k + 1)) by omega)
 rw [Nat.mul_add (65536 ^ k) _ 1] at this
 omega
def cmp (x y : Nat) : Int := if x < y then -1 else if y < x then 1 else 0
/-- The digits of limbs. -/
def nh : List Nat → List Nat
 | [] => []
 | x :: l => x % 65536 :: x / 65536 :: nh l
theorem nh_lm {l : List Nat} (h : Nt.Lm l) : Lm (nh l) := by
 induction l with
 | nil => intro x hx; simp [nh] at hx
 | cons x l ih =>
  intro y hy
  have hx := h x List.mem_cons_self
  simp only [nh, List.mem_cons] at hy
  rcases hy with e | e | e
  ·omega
  ·omega
  ·exact ih (fun z hz => h z (List.mem_cons_of_mem _ hz)) y e
theorem vl_nh (l : List Nat) : vl (nh l) = Nt.vl l := by
 induction l with
 | nil => rfl
 | cons x l ih => simp only [nh, vl, Nt.vl, ih]; omega
theorem nh_append (a b : List Nat) : nh (a ++ b) = nh a ++ nh b := by
 induction a with
 | nil => rfl
 | cons x a ih => simp [nh, ih]
theorem nh_length (l : List Nat) : (nh l).length = 2 * l.length := by
 induction l with
 | nil => rfl
 | cons x l ih => simp only [nh, List.length_cons, ih]; omega
/-- Half of a number. -/
def hf : List Nat → List Nat
 | [] => []
 | x :: l => (x / 2 + (l.getD 0 0) % 2 * 32768) :: hf l
theorem hf_length (l : List Nat) : (hf l).length = l.length := by induction l with | nil => rfl | cons x l ih => simp [hf, ih]
theorem hf_lm {l : List Nat} (h : Lm l) : Lm (hf l) := by
 induction l with
 | nil => intro x hx; simp [hf] at hx
 | cons x l ih =>
  intro y hy
  have hx := h x List.mem_cons_self
  rcases List.mem_cons.1 hy with e | e
  ·omega
  ·exact ih (fun z hz => h z (List.mem_cons_of_mem _ hz)) y e
theorem hf_getD (l : List Nat) {i : Nat} (h : i < l.length) : (hf l).getD i 0 = l.getD i 0 / 2 + l.getD (i + 1) 0 % 2 * 32768 := by
 induction l generalizing i with
 | nil => simp at h
 | cons x l ih =>
  cases i with
  | zero => cases l <;> simp [hf]
  | succ i => simpa [hf] using ih (i := i) (by simpa using h)
theorem low_bit (l : List Nat) : l.getD 0 0 % 2 = vl l % 2 := by
 cases l with
 | nil => rfl
 | cons x l => simp only [List.getD_cons_zero, vl]; omega
theorem vl_hf (l : List Nat) : vl (hf l) = vl l / 2 := by
 induction l with
 | nil => rfl
 | cons x l ih =>
  have := low_bit l
  simp only [hf, vl, ih, this]
  omega
/-- Binary digits. -/
def blen (x : Nat) : Nat := if x = 0 then 0 else Nat.log2 x + 1
theorem blen_pos {x : Nat} (h : x ≠ 0) : blen x = Nat.log2 x + 1 := by unfold blen; rw [if_neg h]
theorem blen_eq {x n : Nat} (h1 : 2 ^ n ≤ x) (h2 : x < 2 ^ (n + 1)) : blen x = n + 1 := by
 have h0 : x ≠ 0 := by have := Nat.two_pow_pos n; omega
 rw [blen_pos h0]
 have a : Nat.log2 x < n + 1 := (Nat.log2_lt h0).2 h2
 have b : n ≤ Nat.log2 x := (Nat.le_log2 h0).2 h1
 omega
theorem blen_lt (x : Nat) : x < 2 ^ blen x := by
 by_cases h : x = 0
 ·subst h; simp [blen]
 ·rw [blen_pos h]; exact Nat.lt_log2_self
theorem blen_ge {x : Nat} (h : x ≠ 0) : 2 ^ (blen x - 1) ≤ x := by rw [blen_pos h]; exact Nat.log2_self_le h
theorem blen_half {x : Nat} (h : x ≠ 0) : blen x = blen (x / 2) + 1 := by
 by_cases e : x / 2 = 0
 ·have : x = 1 := by omega
  subst this; decide
 ·have h1 := blen_ge e
  have h2 := blen_lt (x / 2)
  have p : blen (x / 2) ≠ 0 := by rw [blen_pos e]; omega
  obtain ⟨k, hk⟩ : ∃ k, blen (x / 2) = k + 1 := ⟨blen (x / 2) - 1, by omega⟩
  rw [hk] at h1 h2 ⊢
  simp only [Nat.add_sub_cancel] at h1
  rw [Nat.pow_succ] at h2
  exact blen_eq (n := k + 1) (by rw [Nat.pow_succ]; omega) (by rw [Nat.pow_succ, Nat.pow_succ]; omega)
/-- Of a number with a top digit: k digits of b bits below it. -/
theorem blen_top {lo t p b : Nat} (ht : t ≠ 0) (hlo : lo < 2 ^ (b * p)) : blen (lo + 2 ^ (b * p) * t) = b * p + blen t := by
 have h1 := blen_ge ht
 have h2 := blen_lt t
 have hp : blen t ≠ 0 := by rw [blen_pos ht]; omega
 obtain ⟨k, hk⟩ : ∃ k, blen t = k + 1 := ⟨blen t - 1, by omega⟩
 rw [hk] at h1 h2 ⊢
 simp only [Nat.add_sub_cancel] at h1
 have e : b * p + (k + 1) = (b * p + k) + 1 := by omega
 rw [e]
 refine blen_eq ?_ ?_
 ·have := Nat.mul_le_mul_left (2 ^ (b * p)) h1
  rw [← Nat.pow_add] at this
  omega
 ·have := Nat.mul_le_mul_left (2 ^ (b * p)) (show t + 1 ≤ 2 ^ (k + 1) from h2)
  rw [← Nat.pow_add, Nat.mul_add, show b * p + (k + 1) = (b * p + k) + 1 from by omega] at this
  omega
theorem blen_le {x n : Nat} : blen x ≤ n ↔ x < 2 ^ n := by
 constructor
 ·intro h; exact Nat.lt_of_lt_of_le (blen_lt x) (Nat.pow_le_pow_right (by omega) h)
 ·intro h
  by_cases e : x = 0
  ·subst e; simp [blen]
  ·rw [blen_pos e]; exact (Nat.log2_lt e).2 h
/-- The greatest common divisor, by halves and differences. -/
theorem gcd_half_both (x y : Nat) : Nat.gcd (2 * x) (2 * y) = 2 * Nat.gcd x y := Nat.gcd_mul_left 2 x y
theorem gcd_half_left {x y : Nat} (hy : y % 2 = 1) : Nat.gcd (2 * x) y = Nat.gcd x y := by
 have c : Nat.Coprime 2 y := by
  unfold Nat.Coprime
  rw [Nat.gcd_rec, show y % 2 = 1 from hy]
  decide
 exact Nat.Coprime.gcd_mul_left_cancel x c
theorem gcd_half_right {x y : Nat} (hx : x % 2 = 1) : Nat.gcd x (2 * y) = Nat.gcd x y := by
 rw [Nat.gcd_comm, gcd_half_left hx, Nat.gcd_comm]
theorem gcd_sub {x y : Nat} (h : y ≤ x) : Nat.gcd (x - y) y = Nat.gcd x y := by
 rw [Nat.gcd_comm (x - y) y, Nat.gcd_comm x y]
 conv => rhs; rw [← Nat.sub_add_cancel h]
 exact (Nat.gcd_add_self_right ..).symm
end Go.Proofs.Ytijdglogadnbcaa.Nh
namespace Go.Proofs.Ytijdglogadnbcaa
open Go.RowKit Nt
theorem ret_i64 {a b : Int} (h : a = b) : Ending.returned (.int .i64 a) = .returned (.int .i64 b) := by rw [h]
theorem bitLen_blen (x : Nat) (h : x < 2 ^ 64) : Lib.bitLen x = Nh.blen x := by
 induction x using Nat.strongRecOn with
 | _ x ih =>
  by_cases h0 : x = 0
  ·subst h0; decide
  ·rw [Lib.bitLen_half x h0 h, Nh.blen_half h0, ih (x / 2) (by omega) (by omega), Nat.add_comm]
theorem pow32 (k : Nat) : 4294967296 ^ k = 2 ^ (32 * k) := by rw [Nat.pow_mul]
theorem toL_pos_len {x : Nat} (h : x ≠ 0) : 0 < (toL x).length := by rw [toL_pos h]; simp
theorem toL_top_ne {x : Nat} (h : x ≠ 0) : (toL x).getD ((toL x).length - 1) 0 ≠ 0 := by
 have := (toL_last x).resolve_left (by intro e; have := toL_pos_len h; rw [e] at this; simp at this)
 intro e
 apply this
 rw [List.getLast?_eq_getElem?]
 have hl := toL_pos_len h
 rw [List.getD_eq_getElem?_getD, List.getElem?_eq_getElem (by omega)] at e
 rw [List.getElem?_eq_getElem (by omega)]
 simpa using e
/-- A number by its last limb. -/
theorem toL_split {x n : Nat} (hn : (toL x).length = n + 1) : ∃ lo, lo < 2 ^ (32 * n) ∧ x = lo + 2 ^ (32 * n) * (toL x).getD n 0 := by
 refine ⟨vl ((toL x).take n), by rw [← pow32]; exact vl_take_lt (toL_lm x) n, ?_⟩
 have := vl_take_succ (toL x) n
 rw [List.take_of_length_le (by omega), vl_toL] at this
 rw [← pow32]; exact this
theorem blen_toL {x n : Nat} (hn : (toL x).length = n + 1) : Nh.blen x = 32 * n + Nh.blen ((toL x).getD n 0) := by
 obtain ⟨lo, h1, h2⟩ := toL_split hn
 have h0 : x ≠ 0 := by intro e; rw [e, toL_zero] at hn; simp at hn
 have ht := toL_top_ne h0
 rw [hn, Nat.add_sub_cancel] at ht
 have := Nh.blen_top ht h1
 rw [← h2] at this
 exact this
theorem len_any {w : World} {x : Nat} {a : Option Addr} {na ca : Nat} (ha : LAt w (toL x) a na ca) (hsz : na ≤ 1099511627776) :
  Calls Try.prog 61 #[.slice a na ca] w fun e w' => e = .returned (.int .i64 (Nh.blen x : Nat)) ∧ w = w' := by
 by_cases h0 : na = 0
 ·subst h0
  have e : x = 0 := by have := vl_toL x; rw [List.length_eq_zero_iff.1 ha.len] at this; exact this.symm
  subst e
  go_enter Try.func61, Try.ntmps61
  go_wp2_with fail
  go_ret
  exact ⟨rfl, rfl⟩
 ·obtain ⟨n, rfl⟩ : ∃ n, na = n + 1 := ⟨na - 1, by omega⟩
  have A := Lib.hid ha
  have hca := ha.cap; have hla := ha.le
  obtain ⟨b1, o1, rfl, d1⟩ := ha.at_ (by intro e; have := ha.len; rw [e] at this; simp at this)
  have p0 := d1 n (by rw [ha.len]; omega)
  have BL := Lib.hid (blen_toL ha.len)
  clear d1 ha
  obtain ⟨t, ht⟩ : ∃ t, (toL x).getD n 0 = t := ⟨_, rfl⟩
  have tb : t < 4294967296 := by rw [← ht]; exact lm_getD A.out.lm n
  rw [ht] at p0
  have HT := Lib.hid ht; clear ht
  have e1 : ((n + 1 : Nat) : Int) - 1 = (n : Int) := by omega
  have hz : (((n + 1 : Nat) : Int) == 0) = false := by simp; omega
  go_enter Try.func61, Try.ntmps61
  go_wp2_with (go_at_call 81; refine (Try.bits_Len32 _ _ (by omega) (by omega)).mono ?_; rintro e w' ⟨rfl, rfl⟩)
  go_ret
  refine ⟨ret_i64 ?_, rfl⟩
  have h3 : Nh.blen t ≤ 32 := Nh.blen_le.2 (by omega)
  rw [BL.out, HT.out, bitLen_blen t (by omega)]
  simp only [wrap64]
  omega
theorem of_any (x : Nat) (hx : x < 18446744073709551616) (w : World) : Calls Try.prog 30 #[.int .u64 (x : Int)] w (NPost w x) := by
 have e1 : (x : Int) % 4294967296 = ((x % 4294967296 : Nat) : Int) := by omega
 have e2 : (x : Int) / 4294967296 = ((x / 4294967296 : Nat) : Int) := by omega
 have L : Hid (LAt (w.alloc (.cells #[.int .u32 ((x : Int) % 4294967296), .int .u32 ((x : Int) / 4294967296)] 55)) [x % 4294967296, x / 4294967296] (some ⟨w.heap.size, 0, none⟩) 2 2) := by
  have U : UB (w.alloc (.cells #[.int .u32 ((x : Int) % 4294967296), .int .u32 ((x : Int) / 4294967296)] 55)) w.heap.size [x % 4294967296, x / 4294967296] := by
   rw [e1, e2]; exact heap_alloc_new w _
  exact ⟨U.at_, rfl, Nat.le_refl _, by omega, fun y hy => by simp at hy; omega⟩
 have B : Hid (Below w.heap.size w (w.alloc (.cells #[.int .u32 ((x : Int) % 4294967296), .int .u32 ((x : Int) / 4294967296)] 55))) := (Below.refl _ _).alloc (Nat.le_refl _) _
 have V : Hid (vl [x % 4294967296, x / 4294967296] = x) := by show _ = _; simp only [vl]; omega
 clear e1 e2
 have hx2 : (x : Int) < 18446744073709551616 := by omega
 go_enter Try.func30, Try.ntmps30
 go_wp2_with (go_at_call 55; refine (trim_at L.out).mono ?_; rintro e w' ⟨rfl, rfl⟩)
 go_ret
 exact NPost.of_trim L.out B.out V.out
end Go.Proofs.Ytijdglogadnbcaa
