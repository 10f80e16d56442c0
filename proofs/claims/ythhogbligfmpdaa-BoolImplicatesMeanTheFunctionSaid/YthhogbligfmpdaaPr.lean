/- Plain facts for BoolSplits: the function is the one of two restrictions that its variable selects. -/
import Derived.Test.YthhogbligfmpdaaXj
import Derived.Test.YthhogbligfmpdaaPm
set_option linter.unusedVariables false
set_option linter.unusedSimpArgs false
namespace Go.Proofs.Ythhogbligfmpdaa
open Go.RowKit Bd

/-- The diagram of a variable's negation. -/
def ngN (v : Int) : List Nd := [(v, -2, -1)]
theorem ngN_good {v : Int} (h0 : 0 ≤ v) (h : v < 16) : Bd.Good (ngN v) := by
  refine ⟨?_, ?_, by simp [ngN]⟩
  · intro i hi
    have : i = 0 := by simp [ngN] at hi; omega
    subst this
    simp [ngN, nd, lo, Bd.hi, top]; omega
  · intro i hi
    have : i = 0 := by simp [ngN] at hi; omega
    subst this
    simp [ngN, nd, lo, Bd.hi]
theorem ngN_ref (v : Int) : Ref (ngN v) 0 := ⟨by decide, by simp [ngN]⟩
theorem ngN_chk {v : Int} (h0 : 0 ≤ v) (h : v < 16) : chk (ngN v) 0 = 0 := by
  have g := ngN_good h0 h
  exact chk_numb_ok (by simp [ngN]) (ord_first g.ord _ (Nat.le_refl _)) g (by simp [ngN]) (by simp [ngN]) (by simp [ngN, numb, lo, Bd.hi, nd, upto])
theorem ngN_tb {v : Int} (h0 : 0 ≤ v) (h : v < 16) : tb (ngN v) 16 0 = tl fun x => !x.testBit (15 - v.toNat) := by
  rw [tab_fol (ngN_good h0 h).ord (ngN_ref v) (f := 1) (by decide)]
  refine tl_congr fun x _ => ?_
  simp only [fol, show ¬ (0 : Int) < 0 by decide, if_false, show (nd (ngN v) 0).1 = v from rfl, show hi (ngN v) 0 = -1 from rfl, show lo (ngN v) 0 = -2 from rfl]
  cases hb : x.testBit (15 - v.toNat) <;> simp
theorem ng_len {v : Int} (h0 : 0 ≤ v) (h : v < 16) : (cnNodes (tl fun x => !x.testBit (15 - v.toNat))).length ≤ 2000 := by
  rw [← ngN_tb h0 h, (chk_zero (ngN_chk h0 h)).2.2.2.2]; simp [ngN]

theorem out_ok {T : List Bool} (h : outErr T = 0) : (cnNodes T).length ≤ 2000 := by
  unfold outErr at h
  by_cases h1 : (cnNodes T).length ≤ 2000
  · exact h1
  · rw [if_neg h1] at h; omega
theorem out_err (T : List Bool) : outErr T = 0 ∨ outErr T = 3 := by
  unfold outErr; split <;> simp
/-- A table's diagram that was handed back without an error. -/
theorem out_dg {T : List Bool} (hT : T.length = 65536) (h : outErr T = 0) : chk (outNodes T) (outRoot T) = 0 ∧ tb (outNodes T) 16 (outRoot T) = T := by
  have h1 := out_ok h
  unfold outNodes outRoot
  rw [if_pos h1, if_pos h1]
  exact ⟨chk_cn hT h1, cn_tb hT⟩
/-- A diagram without fault is that of its table. -/
theorem dg_out {ds : List Nd} {r : Int} (h : chk ds r = 0) : outNodes (tb ds 16 r) = ds ∧ outRoot (tb ds 16 r) = r ∧ outErr (tb ds 16 r) = 0 := by
  obtain ⟨q1, _, _, q4, q5⟩ := chk_zero h
  have h1 : (cnNodes (tb ds 16 r)).length ≤ 2000 := by rw [q5]; exact q1
  exact ⟨by unfold outNodes; rw [if_pos h1, q5], by unfold outRoot; rw [if_pos h1, q4], by unfold outErr; rw [if_pos h1]⟩
theorem setb_self (k : Nat) (x : Nat) : setb k (x.testBit k) x = x := by
  refine Nat.eq_of_testBit_eq fun i => ?_
  rw [setb_bit]
  split
  · rename_i h; rw [h]
  · rfl
theorem setb_lt16 {k x : Nat} {b : Bool} (hk : k < 16) (hx : x < 65536) : setb k b x < 65536 := setb_lt (n := 16) hk hx

/-- The two sides of a table, joined by the variable. -/
theorem split_back {T : List Bool} (hT : T.length = 65536) {v : Int} (h0 : 0 ≤ v) (h : v < 16) :
    opT 5 (opT 4 (tl fun x => !fnT (tl (evF (.mk 1 v []))) x) (tl fun x => fnT T (setb (kO v) false x))) (opT 4 (tl (evF (.mk 1 v []))) (tl fun x => fnT T (setb (kO v) true x))) = T := by
  have hk : kO v = 15 - v.toNat := by unfold kO; omega
  refine Eq.trans ?_ (tl_fnT hT)
  unfold opT
  refine tl_congr fun x hx => ?_
  rw [fnT_tl _ hx, fnT_tl _ hx, fnT_tl _ hx, fnT_tl _ hx, fnT_tl _ hx, fnT_tl _ hx, evF_var, ← hk]
  try rw [fnT_tl _ hx]
  have := setb_self (kO v) x
  cases hb : x.testBit (kO v) with
  | false => rw [hb] at this; rw [this]; simp [opB]
  | true => rw [hb] at this; rw [this]; simp [opB]
theorem split_not {v : Int} : (tl fun x => !fnT (tl (evF (.mk 1 v []))) x) = tl fun x => !x.testBit (15 - v.toNat) := by
  refine tl_congr fun x hx => ?_
  rw [fnT_tl _ hx, evF_var]
/-- Exists of one variable is the disjunction of both sides. -/
theorem split_ex (T : List Bool) (v : Int) :
    tl (exV [v] (fnT T)) = opT 5 (tl fun x => fnT T (setb (kO v) false x)) (tl fun x => fnT T (setb (kO v) true x)) := by
  unfold opT
  refine tl_congr fun x hx => ?_
  rw [fnT_tl _ hx, fnT_tl _ hx]
  simp [exV, Bd.exF, exB, opB]

end Go.Proofs.Ythhogbligfmpdaa
