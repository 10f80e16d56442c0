/- Plain facts: whole tables as functions of the entry's number; formulas, their faults, their values. No program in sight. -/
import Derived.Test.YthhogbligfmpdaaPb
set_option linter.unusedVariables false
set_option linter.unusedSimpArgs false
namespace Go.Proofs.Ythhogbligfmpdaa.Bd

def tl (f : Nat → Bool) : List Bool := (List.range 65536).map f
/-- The table of a reference is that of a function of the entry's number: bit 15 - v of the number is the variable v. -/
def Tab (ns : List Nd) (r : Int) (f : Nat → Bool) : Prop := tb ns 16 r = tl f

theorem tl_congr {f g : Nat → Bool} (h : ∀ x, x < 65536 → f x = g x) : tl f = tl g := by
  unfold tl
  exact List.map_congr_left fun x hx => h x (List.mem_range.1 hx)
theorem tl_length (f : Nat → Bool) : (tl f).length = 65536 := by simp [tl]
theorem tl_get (f : Nat → Bool) {x : Nat} (h : x < 65536) : (tl f)[x]? = some (f x) := by simp [tl, h]
theorem tl_inj {f g : Nat → Bool} (h : tl f = tl g) {x : Nat} (hx : x < 65536) : f x = g x := by
  have a := tl_get f hx
  rw [h, tl_get g hx] at a
  simpa using a.symm

theorem it3_map (f g h : Nat → Bool) : ∀ l : List Nat, it3 (l.map f) (l.map g) (l.map h) = l.map fun x => if f x then g x else h x
  | [] => by simp [it3]
  | a :: l => by simp [it3, it3_map f g h l]

theorem map_const_range (n : Nat) (b : Bool) : (List.range n).map (fun _ => b) = List.replicate n b := by
  rw [List.eq_replicate_iff]
  exact ⟨by simp, by simp⟩
theorem two16 : (2 : Nat) ^ 16 = 65536 := by decide
theorem tab_false (ns : List Nd) : Tab ns (-1) fun _ => false := by
  unfold Tab tl
  rw [tb_const 16 (Nat.le_refl _) (by omega), two16, map_const_range]
  rfl
theorem tab_true (ns : List Nd) : Tab ns (-2) fun _ => true := by
  unfold Tab tl
  rw [tb_const 16 (Nat.le_refl _) (by omega), two16, map_const_range]
  rfl

theorem Tab.app {ns ms : List Nd} {r : Int} {f : Nat → Bool} (h : Tab ns r f) (o : Ord ns) (hr : Ref ns r) : Tab (ns ++ ms) r f := by
  unfold Tab at *
  rw [tb_app o 16 hr (by have := (o.top_lt hr).1; omega)]; exact h

theorem Tab.ite {ns ns' : List Nd} {a b c r : Int} {f g h : Nat → Bool} (ha : Tab ns a f) (hb : Tab ns b g) (hc : Tab ns c h) (hr : IteRes ns a b c 0 ns' r) : Tab ns' r fun x => if f x then g x else h x := by
  unfold Tab at *
  rw [hr.tab 16 (by omega), ha, hb, hc]
  exact it3_map f g h _

theorem Tab.congr {ns : List Nd} {r : Int} {f g : Nat → Bool} (h : Tab ns r f) (e : ∀ x, x < 65536 → f x = g x) : Tab ns r g := by
  unfold Tab at *; rw [h]; exact tl_congr e

theorem range_double (n : Nat) (f : Nat → Bool) : (List.range (2 ^ (n + 1))).map f = (List.range (2 ^ n)).map f ++ (List.range (2 ^ n)).map fun x => f (2 ^ n + x) := by
  rw [Nat.pow_succ, Nat.mul_two, List.range_add, List.map_append, List.map_map]
  rfl

/-- The table of a variable. -/
theorem tab_var {ns ns' : List Nd} {v r : Int} (hv : 0 ≤ v) (h16 : v < 16) (hr : NodeRes ns v (-1) (-2) ns' r) : Tab ns' r fun x => x.testBit (15 - v.toNat) := by
  obtain ⟨k, hk⟩ : ∃ k : Nat, (15 : Int) - k = v := ⟨(15 - v).toNat, by omega⟩
  have hk2 : 15 - v.toNat = k := by omega
  have hk15 : k ≤ 15 := by omega
  rw [hk2]
  have base : tb ns' (k + 1) r = (List.range (2 ^ (k + 1))).map fun x => x.testBit k := by
    rw [hr.tab k hk, tb_const k (by omega) (by omega), tb_const k (by omega) (by omega), range_double]
    congr 1
    · symm
      rw [List.eq_replicate_iff]
      refine ⟨by simp, ?_⟩
      intro b hb
      obtain ⟨x, hx, rfl⟩ := List.mem_map.1 hb
      rw [Nat.testBit_lt_two_pow (List.mem_range.1 hx)]; rfl
    · symm
      rw [List.eq_replicate_iff]
      refine ⟨by simp, ?_⟩
      intro b hb
      obtain ⟨x, hx, rfl⟩ := List.mem_map.1 hb
      rw [Nat.testBit_two_pow_add_eq, Nat.testBit_lt_two_pow (List.mem_range.1 hx)]; rfl
  have all : ∀ d, tb ns' (k + 1 + d) r = (List.range (2 ^ (k + 1 + d))).map fun x => x.testBit k := by
    intro d
    induction d with
    | zero => exact base
    | succ d ih =>
      have := hr.top
      rw [show k + 1 + (d + 1) = (k + 1 + d) + 1 from by omega, tb_skip (n := k + 1 + d) (by omega), ih, range_double]
      congr 1
      refine List.map_congr_left fun x _ => ?_
      rw [Nat.testBit_two_pow_add_gt (by omega)]
  have := all (16 - (k + 1))
  rw [show k + 1 + (16 - (k + 1)) = 16 from by omega, two16] at this
  exact this

end Go.Proofs.Ythhogbligfmpdaa.Bd

namespace Go.Proofs.Ythhogbligfmpdaa

/-- A formula. -/
inductive Fm where
  | mk (op var : Int) (kids : List Fm)

def Fm.op : Fm → Int | .mk o _ _ => o
def Fm.var : Fm → Int | .mk _ v _ => v
def Fm.kids : Fm → List Fm | .mk _ _ l => l

/-- How many nodes. -/
def cnt : Fm → Nat
  | .mk _ _ l => 1 + cntL l
where cntL : List Fm → Nat
  | [] => 0
  | f :: l => cnt f + cntL l

def want (op : Int) (n : Nat) : Nat := if op = 1 ∨ op = 2 then 0 else if op = 3 then 1 else if op = 6 then 2 else if op = 7 then 3 else n
def mostVar (op : Int) : Int := if op = 1 then 15 else if op = 2 then 1 else 0
def own (op var : Int) (n : Nat) : Int := if op < 1 ∨ 7 < op then 7 else if n ≠ want op n then 2 else if var < 0 ∨ mostVar op < var then 1 else 0

/-- The first fault of a formula's nodes, each ahead of its kids. -/
def fault : Fm → Int
  | .mk op var l => if own op var l.length ≠ 0 then own op var l.length else faultL l
where faultL : List Fm → Int
  | [] => 0
  | f :: l => if fault f ≠ 0 then fault f else faultL l

def opF (op var : Int) (ks : List Bool) (x : Nat) : Bool :=
  if op = 1 then x.testBit (15 - var.toNat) else if op = 2 then var == 1 else if op = 3 then !(ks.getD 0 false) else if op = 6 then (ks.getD 0 false != ks.getD 1 false)
  else if op = 7 then (if ks.getD 0 false then ks.getD 1 false else ks.getD 2 false) else if op = 5 then ks.any id else ks.all id

/-- Its value at an entry. -/
def evF : Fm → Nat → Bool
  | .mk op var l, x => opF op var (evL l x) x
where evL : List Fm → Nat → List Bool
  | [], _ => []
  | f :: l, x => evF f x :: evL l x

theorem evL_eq (l : List Fm) (x : Nat) : evF.evL l x = l.map fun f => evF f x := by
  induction l with
  | nil => rfl
  | cons f l ih => simp [evF.evL, ih]

theorem cntL_take (l : List Fm) (k : Nat) (h : k < l.length) : cnt.cntL (l.take (k + 1)) = cnt.cntL (l.take k) + cnt l[k] := by
  induction l generalizing k with
  | nil => simp at h
  | cons f l ih =>
    cases k with
    | zero => simp [cnt.cntL]
    | succ k => simp [cnt.cntL, ih k (by simpa using h)]; omega
theorem cntL_take_le (l : List Fm) (k : Nat) : cnt.cntL (l.take k) ≤ cnt.cntL l := by
  induction l generalizing k with
  | nil => simp [cnt.cntL]
  | cons f l ih =>
    cases k with
    | zero => simp [cnt.cntL]
    | succ k => have := ih k; simp [cnt.cntL]; omega

theorem cnt_pos (f : Fm) : 1 ≤ cnt f := by cases f; simp [cnt]
theorem len_le_cntL (l : List Fm) : l.length ≤ cnt.cntL l := by
  induction l with
  | nil => simp
  | cons f l ih => have := cnt_pos f; simp [cnt.cntL]; omega

theorem faultL_zero (l : List Fm) : fault.faultL l = 0 ↔ ∀ f ∈ l, fault f = 0 := by
  induction l with
  | nil => simp [fault.faultL]
  | cons f l ih =>
    simp only [fault.faultL, List.mem_cons, forall_eq_or_imp]
    by_cases h : fault f = 0
    · simp [h, ih]
    · simp [h]

theorem faultL_take (l : List Fm) (k : Nat) (h : k < l.length) (h0 : fault.faultL (l.take k) = 0) : fault.faultL (l.take (k + 1)) = fault l[k] := by
  induction l generalizing k with
  | nil => simp at h
  | cons f l ih =>
    cases k with
    | zero => simp [fault.faultL]; exact fun h => h.symm
    | succ k =>
      simp only [List.take_succ_cons, fault.faultL] at h0 ⊢
      by_cases hf : fault f = 0
      · simp only [hf, ne_eq, not_true_eq_false, if_false] at h0 ⊢
        simpa using ih k (by simpa using h) h0
      · simp [hf] at h0
theorem faultL_stop (l : List Fm) (k : Nat) (h0 : fault.faultL (l.take k) ≠ 0) : fault.faultL l = fault.faultL (l.take k) := by
  induction l generalizing k with
  | nil => simp
  | cons f l ih =>
    cases k with
    | zero => simp [fault.faultL] at h0
    | succ k =>
      simp only [List.take_succ_cons, fault.faultL] at h0 ⊢
      by_cases hf : fault f = 0
      · simp only [hf, ne_eq, not_true_eq_false, if_false] at h0 ⊢
        exact ih k h0
      · simp [hf]

end Go.Proofs.Ythhogbligfmpdaa
