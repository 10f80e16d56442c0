/- Plain facts: the table of a reference, entry by entry; the diagram of the document's example. No program in sight. -/
import Derived.Test.YthhogbligfmpdaaPi
set_option linter.unusedVariables false
set_option linter.unusedSimpArgs false
namespace Go.Proofs.Ythhogbligfmpdaa.Bd

/-- Follow an entry's bits; f is above the reference. -/
def fol (ns : List Nd) : Nat → Int → Nat → Bool
  | 0, r, _ => r == -2
  | f + 1, r, x => if r < 0 then r == -2 else fol ns f (if x.testBit (15 - (nd ns r).1.toNat) then hi ns r else lo ns r) x

theorem fol_neg {ns : List Nd} {f : Nat} {r : Int} {x : Nat} (h : r < 0) : fol ns f r x = (r == -2) := by
  cases f with
  | zero => rfl
  | succ f => simp only [fol]; rw [if_pos h]
theorem fol_pos {ns : List Nd} {f : Nat} {r : Int} {x : Nat} (h : ¬ r < 0) : fol ns (f + 1) r x = fol ns f (if x.testBit (15 - (nd ns r).1.toNat) then hi ns r else lo ns r) x := by
  simp only [fol]; rw [if_neg h]

theorem fol_up {ns : List Nd} (o : Ord ns) {n : Nat} (f : Nat) : ∀ {r : Int} {x : Nat}, Ref ns r → (16 : Int) - n ≤ top ns r → fol ns f r (2 ^ n + x) = fol ns f r x := by
  induction f with
  | zero => intro r x _ _; rfl
  | succ f ih =>
    intro r x hr ht
    by_cases h0 : r < 0
    · rw [fol_neg h0, fol_neg h0]
    · rw [fol_pos h0, fol_pos h0]
      have hl := o.ref_lo hr (by omega)
      have hh := o.ref_hi hr (by omega)
      have tt := o.top_lt hr
      have t2 := tt.2.2 (by omega)
      have te : top ns r = (nd ns r).1 := by unfold top; rw [if_neg h0]
      have hb : (2 ^ n + x).testBit (15 - (nd ns r).1.toNat) = x.testBit (15 - (nd ns r).1.toNat) := Nat.testBit_two_pow_add_gt (by omega) _
      rw [hb]
      split
      · exact ih hh.1 (by omega)
      · exact ih hl.1 (by omega)

theorem tb_fol {ns : List Nd} (o : Ord ns) (n : Nat) : ∀ {f : Nat} {r : Int}, n ≤ 16 → Ref ns r → r < f → (16 : Int) - n ≤ top ns r → tb ns n r = (List.range (2 ^ n)).map (fol ns f r) := by
  induction n with
  | zero =>
    intro f r _ hr hf ht
    have h0 : r < 0 := by
      by_cases h0 : 0 ≤ r
      · have := (o.top_lt hr).2.2 h0; omega
      · omega
    simp [tb, fol_neg h0]
  | succ n ih =>
    intro f r hn hr hf ht
    rw [range_double]
    by_cases e : (15 : Int) - n = top ns r
    · have h0 : ¬ r < 0 := by intro h; rw [top_neg h] at e; omega
      obtain ⟨f', rfl⟩ : ∃ f', f = f' + 1 := ⟨f - 1, by omega⟩
      have hl := o.ref_lo hr (by omega)
      have hh := o.ref_hi hr (by omega)
      have te : top ns r = (nd ns r).1 := by unfold top; rw [if_neg h0]
      have hk : 15 - (nd ns r).1.toNat = n := by omega
      rw [tb_node e, ih (f := f') (by omega) hl.1 (by omega) (by omega), ih (f := f') (by omega) hh.1 (by omega) (by omega)]
      congr 1
      · refine List.map_congr_left fun x hx => ?_
        rw [fol_pos h0, hk, Nat.testBit_lt_two_pow (List.mem_range.1 hx)]
        rfl
      · refine List.map_congr_left fun x hx => ?_
        rw [fol_pos h0, hk, Nat.testBit_two_pow_add_eq, Nat.testBit_lt_two_pow (List.mem_range.1 hx)]
        simp only [Bool.not_false, if_true]
        rw [fol_up o f' hh.1 (by omega)]
    · rw [tb_skip (by omega), ih (by omega) hr hf (by omega)]
      congr 1
      refine List.map_congr_left fun x hx => ?_
      rw [fol_up o f hr (by omega)]

theorem tab_fol {ns : List Nd} (o : Ord ns) {f : Nat} {r : Int} (hr : Ref ns r) (hf : r < f) : tb ns 16 r = tl (fol ns f r) := by
  have := tb_fol o 16 (Nat.le_refl _) hr hf (by have := (o.top_lt hr).1; omega)
  rw [two16] at this
  exact this

/-! The document's example. -/
def exN : List Nd := [(2, -1, -2), (0, -1, 0)]
theorem exN_good : Good exN := by
  refine ⟨?_, ?_, by decide⟩
  · intro i hi
    have : i = 0 ∨ i = 1 := by simp [exN] at hi; omega
    rcases this with rfl | rfl <;> decide
  · intro i hi
    have : i = 0 ∨ i = 1 := by simp [exN] at hi; omega
    rcases this with rfl | rfl <;> decide
theorem exN_ref : Ref exN 1 := ⟨by decide, by decide⟩
theorem exN_chk : chk exN 1 = 0 := by
  have g := exN_good
  exact chk_numb_ok (by decide) (ord_first g.ord _ (Nat.le_refl _)) g (by decide) (by decide) (by decide)
theorem exN_cn : cnRoot (tb exN 16 1) = 1 ∧ cnNodes (tb exN 16 1) = exN := (chk_zero exN_chk).2.2.2

theorem exN_tb : tb exN 16 1 = tl fun x => x.testBit 15 && x.testBit 13 := by
  rw [tab_fol exN_good.ord exN_ref (f := 2) (by decide)]
  refine tl_congr fun x _ => ?_
  simp only [fol, show ¬ (1 : Int) < 0 by decide, if_false, show (nd exN 1).1 = 0 by decide, show hi exN 1 = 0 by decide, show lo exN 1 = -1 by decide]
  cases h : x.testBit (15 - (0 : Int).toNat) with
  | false =>
    have h : x.testBit 15 = false := h
    simp [h]
  | true =>
    have h : x.testBit 15 = true := h
    simp only [if_true, show ¬ (0 : Int) < 0 by decide, if_false, show (nd exN 0).1 = 2 by decide, show hi exN 0 = -2 by decide, show lo exN 0 = -1 by decide, h, Bool.true_and]
    cases h2 : x.testBit (15 - (2 : Int).toNat) with
    | false => have h2 : x.testBit 13 = false := h2
               simp [h2]
    | true => have h2 : x.testBit 13 = true := h2
              simp [h2]

theorem exN_count {c : Nat} (h : CR exN 3 1 0 c) : c = 2 := by
  have o := exN_good.ord
  have a0 : CR exN 3 (0 : Nat) 2 (0 + 2 ^ (3 - 3)) := CR.node o (by decide) (by decide) (CR.neg1 _ _ _) (CR.neg2 _ (by decide) (by decide))
  have a1 : CR exN 3 (0 : Nat) 1 ((0 + 2 ^ (3 - 3)) * 2 ^ (2 - 1)) := a0.up (by decide) (by decide) (by decide)
  have a2 : CR exN 3 (1 : Nat) 0 (0 + (0 + 2 ^ (3 - 3)) * 2 ^ (2 - 1)) := CR.node o (by decide) (by decide) (CR.neg1 _ _ _) a1
  unfold CR at h a2
  have e : c * 2 ^ (16 - 3) = (0 + (0 + 2 ^ (3 - 3)) * 2 ^ (2 - 1)) * 2 ^ (16 - 3) := h.trans a2.symm
  have := Nat.eq_of_mul_eq_mul_right (by decide) e
  simpa using this

end Go.Proofs.Ythhogbligfmpdaa.Bd

namespace Go.Proofs.Ythhogbligfmpdaa
open Bd

/-- The formula of the example. -/
def exF : Fm := .mk 4 0 [.mk 1 0 [], .mk 1 2 []]
theorem exF_ev : tl (evF exF) = tb exN 16 1 := by
  rw [exN_tb]
  refine tl_congr fun x _ => ?_
  simp [exF, evF, evF.evL, opF]

end Go.Proofs.Ythhogbligfmpdaa
