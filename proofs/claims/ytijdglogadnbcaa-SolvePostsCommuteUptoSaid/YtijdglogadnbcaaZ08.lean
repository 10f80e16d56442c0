/- number.Check at limbs without a last 0; number.Check whole. -/
import Derived.Test.YtijdglogadnbcaaZ07
import Derived.Test.YtijdglogadnbcaaZ05
set_option linter.unusedVariables false
set_option linter.unusedSimpArgs false
set_option maxRecDepth 100000
set_option maxHeartbeats 40000000
namespace Go.Proofs.Ytijdglogadnbcaa
open Go.RowKit Nt
theorem check_canon {w : World} {R : Raw} {a b : Option Addr} {n c m d : Nat} (h : RwAt w R a n c b m d) (hn : n ≤ 128) (hm : m ≤ 128) (h1 : lastz R.num = false) (h2 : lastz R.den = false) (h3 : m ≠ 0) :
  Calls Try.prog 26 #[.agg #[.bool R.neg, .slice a n c, .slice b m d]] w (CkPost w (chkN R)) := by
 obtain ⟨neg, num, den⟩ := R
 have cn := canon h.num.lm h1
 have cd := canon h.den.lm h2
 have hn2 := h.num.len
 have hm2 := h.den.len
 simp only at cn cd h1 h2 hn2 hm2
 obtain ⟨P, hP⟩ : ∃ P, vl num = P := ⟨_, rfl⟩
 obtain ⟨D, hD⟩ : ∃ D, vl den = D := ⟨_, rfl⟩
 rw [hP] at cn
 rw [hD] at cd
 have L1 := Lib.hid (h.num.below (below_new w (.cells #[.bool neg, .slice a n c, .slice b m d] 26)))
 have L2 := Lib.hid (h.den.below (below_new w (.cells #[.bool neg, .slice a n c, .slice b m d] 26)))
 simp only at L1 L2
 have K1 : Hid (LAt (w.alloc (.cells #[.bool neg, .slice a n c, .slice b m d] 26)) (toL P) a n c) := by have := L1.out; rwa [cn] at this
 have K2 : Hid (LAt (w.alloc (.cells #[.bool neg, .slice a n c, .slice b m d] 26)) (toL D) b m d) := by have := L2.out; rwa [cd] at this
 have D0 : D ≠ 0 := fun e => h3 (by rw [← hm2, cd, e, toL_zero]; rfl)
 have E0 : chkN ⟨neg, num, den⟩ = if P = 0 ∧ (neg = true ∨ D ≠ 1) then 2 else if Nat.gcd P D ≠ 1 then 2 else 0 := by
  unfold chkN
  simp only [hP, hD]
  rw [if_neg (by omega), if_neg]
  rintro (e | e | e)
  ·rw [h1] at e; cases e
  ·rw [h2] at e; cases e
  ·apply h3; rw [← hm2, e]; rfl
 have H1 := Lib.hid h1; have H2 := Lib.hid h2
 have nP : n = 0 ↔ P = 0 := by rw [← hn2, cn]; exact toL_nil
 have mz : ((m : Int) == 0) = false := by simp; exact h3
 clear h h1 h2 h3 cn cd hn2 hm2 hP hD
 by_cases hP0 : P = 0
 ·have nz : ((n : Int) == 0) = true := by simp; exact nP.2 hP0
  cases neg with
  | true =>
   have E : Hid (chkN ⟨true, num, den⟩ = 2) := by show _ = _; rw [E0, if_pos ⟨hP0, Or.inl rfl⟩]
   have D1 := Lib.hid (rfl : decide (D = 1) = decide (D = 1))
   have D2 := Lib.hid (rfl : decide (P = 1) = decide (P = 1))
   clear E0 hP0 nP D0
   go_enter Try.func26, Try.ntmps26
   go_wp2_with (first
    | (go_at_call 39; ((with_reducible refine (last_any L1.out).mono ?_)); rintro e w' ⟨rfl, rfl⟩; rw [H1.out])
    | (go_at_call 39; ((with_reducible refine (last_any L2.out).mono ?_)); rintro e w' ⟨rfl, rfl⟩; rw [H2.out])
    | (go_at_call 40; ((with_reducible refine (isOne_at K2.out).mono ?_)); rintro e w' ⟨rfl, rfl⟩; rw [D1.out])
    | (go_at_call 40; ((with_reducible refine (isOne_at K1.out).mono ?_)); rintro e w' ⟨rfl, rfl⟩; rw [D2.out]))
   go_ret
   exact ⟨by rw [E.out]; rfl, below_new _ _⟩
  | false =>
   by_cases hD1 : D = 1
   ·have E : Hid (chkN ⟨false, num, den⟩ = 0) := by show _ = _; rw [E0, if_neg (fun q => by rcases q.2 with e | e; cases e; exact e hD1), if_neg (by rw [hD1, Nat.gcd_one_right]; simp)]
    have D1 : Hid (decide (D = 1) = true) := decide_eq_true hD1
    have D2 := Lib.hid (rfl : decide (P = 1) = decide (P = 1))
    clear E0 hP0 nP D0 hD1
    go_enter Try.func26, Try.ntmps26
    go_wp2_with (first
     | (go_at_call 39; ((with_reducible refine (last_any L1.out).mono ?_)); rintro e w' ⟨rfl, rfl⟩; rw [H1.out])
     | (go_at_call 39; ((with_reducible refine (last_any L2.out).mono ?_)); rintro e w' ⟨rfl, rfl⟩; rw [H2.out])
     | (go_at_call 40; ((with_reducible refine (isOne_at K2.out).mono ?_)); rintro e w' ⟨rfl, rfl⟩; rw [D1.out])
     | (go_at_call 40; ((with_reducible refine (isOne_at K1.out).mono ?_)); rintro e w' ⟨rfl, rfl⟩; rw [D2.out]))
    go_ret
    exact ⟨by rw [E.out]; rfl, below_new _ _⟩
   ·have E : Hid (chkN ⟨false, num, den⟩ = 2) := by show _ = _; rw [E0, if_pos ⟨hP0, Or.inr hD1⟩]
    have D1 : Hid (decide (D = 1) = false) := decide_eq_false hD1
    have D2 := Lib.hid (rfl : decide (P = 1) = decide (P = 1))
    clear E0 hP0 nP D0 hD1
    go_enter Try.func26, Try.ntmps26
    go_wp2_with (first
     | (go_at_call 39; ((with_reducible refine (last_any L1.out).mono ?_)); rintro e w' ⟨rfl, rfl⟩; rw [H1.out])
     | (go_at_call 39; ((with_reducible refine (last_any L2.out).mono ?_)); rintro e w' ⟨rfl, rfl⟩; rw [H2.out])
     | (go_at_call 40; ((with_reducible refine (isOne_at K2.out).mono ?_)); rintro e w' ⟨rfl, rfl⟩; rw [D1.out])
     | (go_at_call 40; ((with_reducible refine (isOne_at K1.out).mono ?_)); rintro e w' ⟨rfl, rfl⟩; rw [D2.out]))
    go_ret
    exact ⟨by rw [E.out]; rfl, below_new _ _⟩
 ·have nz : ((n : Int) == 0) = false := by simp; exact fun e => hP0 (nP.1 e)
  rw [if_neg (fun q => hP0 q.1)] at E0
  by_cases hD1 : D = 1
  ·have E : Hid (chkN ⟨neg, num, den⟩ = 0) := by show _ = _; rw [E0, if_neg (by rw [hD1, Nat.gcd_one_right]; simp)]
   have D1 : Hid (decide (D = 1) = true) := decide_eq_true hD1
   have D2 := Lib.hid (rfl : decide (P = 1) = decide (P = 1))
   clear E0 hP0 nP D0 hD1
   go_enter Try.func26, Try.ntmps26
   go_wp2_with (first
    | (go_at_call 39; ((with_reducible refine (last_any L1.out).mono ?_)); rintro e w' ⟨rfl, rfl⟩; rw [H1.out])
    | (go_at_call 39; ((with_reducible refine (last_any L2.out).mono ?_)); rintro e w' ⟨rfl, rfl⟩; rw [H2.out])
    | (go_at_call 40; ((with_reducible refine (isOne_at K2.out).mono ?_)); rintro e w' ⟨rfl, rfl⟩; rw [D1.out])
    | (go_at_call 40; ((with_reducible refine (isOne_at K1.out).mono ?_)); rintro e w' ⟨rfl, rfl⟩; rw [D2.out]))
   go_ret
   exact ⟨by rw [E.out]; rfl, below_new _ _⟩
  ·have D1 : Hid (decide (D = 1) = false) := decide_eq_false hD1
   by_cases hP1 : P = 1
   ·have E : Hid (chkN ⟨neg, num, den⟩ = 0) := by show _ = _; rw [E0, if_neg (by rw [hP1, Nat.gcd_one_left]; simp)]
    have D2 : Hid (decide (P = 1) = true) := decide_eq_true hP1
    clear E0 hP0 nP D0 hD1 hP1
    go_enter Try.func26, Try.ntmps26
    go_wp2_with (first
     | (go_at_call 39; ((with_reducible refine (last_any L1.out).mono ?_)); rintro e w' ⟨rfl, rfl⟩; rw [H1.out])
     | (go_at_call 39; ((with_reducible refine (last_any L2.out).mono ?_)); rintro e w' ⟨rfl, rfl⟩; rw [H2.out])
     | (go_at_call 40; ((with_reducible refine (isOne_at K2.out).mono ?_)); rintro e w' ⟨rfl, rfl⟩; rw [D1.out])
     | (go_at_call 40; ((with_reducible refine (isOne_at K1.out).mono ?_)); rintro e w' ⟨rfl, rfl⟩; rw [D2.out]))
    go_ret
    exact ⟨by rw [E.out]; rfl, below_new _ _⟩
   ·have D2 : Hid (decide (P = 1) = false) := decide_eq_false hP1
    obtain ⟨g, hg⟩ : ∃ g, Nat.gcd P D = g := ⟨_, rfl⟩
    have HG := Lib.hid hg
    have B1 : Hid (Below w.heap.size w (w.alloc (.cells #[.bool neg, .slice a n c, .slice b m d] 26))) := below_new _ _
    by_cases hg1 : g = 1
    ·have E : Hid (chkN ⟨neg, num, den⟩ = 0) := by show _ = _; rw [E0, if_neg (by rw [hg]; simp [hg1])]
     have D3 : Hid (decide (g = 1) = true) := decide_eq_true hg1
     clear E0 hP0 nP D0 hD1 hP1 hg hg1
     go_enter Try.func26, Try.ntmps26
     go_wp2_with (first
      | (go_at_call 39; ((with_reducible refine (last_any L1.out).mono ?_)); rintro e w' ⟨rfl, rfl⟩; rw [H1.out])
      | (go_at_call 39; ((with_reducible refine (last_any L2.out).mono ?_)); rintro e w' ⟨rfl, rfl⟩; rw [H2.out])
      | (go_at_call 40; ((with_reducible refine (isOne_at K2.out).mono ?_)); rintro e w' ⟨rfl, rfl⟩; rw [D1.out])
      | (go_at_call 40; ((with_reducible refine (isOne_at K1.out).mono ?_)); rintro e w' ⟨rfl, rfl⟩; rw [D2.out])
      | (go_at_call 41; refine (gcd_any K1.out K2.out (by omega) (by omega)).mono ?_; rintro e w2 ⟨a2, n2, c2, rfl, L5, B5⟩; rw [HG.out] at L5; have L5 := Lib.hid L5; have B5 := Lib.hid B5)
      | (go_at_call 40; refine (isOne_at L5.out).mono ?_; rintro e w' ⟨rfl, rfl⟩; rw [D3.out]))
     go_ret
     exact ⟨by rw [E.out]; rfl, Below.over B1.out B1.out.size B5.out⟩
    ·have E : Hid (chkN ⟨neg, num, den⟩ = 2) := by show _ = _; rw [E0, if_pos (by rw [hg]; exact hg1)]
     have D3 : Hid (decide (g = 1) = false) := decide_eq_false hg1
     clear E0 hP0 nP D0 hD1 hP1 hg hg1
     go_enter Try.func26, Try.ntmps26
     go_wp2_with (first
      | (go_at_call 39; ((with_reducible refine (last_any L1.out).mono ?_)); rintro e w' ⟨rfl, rfl⟩; rw [H1.out])
      | (go_at_call 39; ((with_reducible refine (last_any L2.out).mono ?_)); rintro e w' ⟨rfl, rfl⟩; rw [H2.out])
      | (go_at_call 40; ((with_reducible refine (isOne_at K2.out).mono ?_)); rintro e w' ⟨rfl, rfl⟩; rw [D1.out])
      | (go_at_call 40; ((with_reducible refine (isOne_at K1.out).mono ?_)); rintro e w' ⟨rfl, rfl⟩; rw [D2.out])
      | (go_at_call 41; refine (gcd_any K1.out K2.out (by omega) (by omega)).mono ?_; rintro e w2 ⟨a2, n2, c2, rfl, L5, B5⟩; rw [HG.out] at L5; have L5 := Lib.hid L5; have B5 := Lib.hid B5)
      | (go_at_call 40; refine (isOne_at L5.out).mono ?_; rintro e w' ⟨rfl, rfl⟩; rw [D3.out]))
     go_ret
     exact ⟨by rw [E.out]; rfl, Below.over B1.out B1.out.size B5.out⟩
theorem check_any {w : World} {R : Raw} {a b : Option Addr} {n c m d : Nat} (h : RwAt w R a n c b m d) :
  Calls Try.prog 26 #[.agg #[.bool R.neg, .slice a n c, .slice b m d]] w (CkPost w (chkN R)) := by
 by_cases hl : 128 < n ∨ 128 < m
 ·exact check_long h hl
 ·by_cases hf : lastz R.num = true ∨ lastz R.den = true ∨ m = 0
  ·exact check_form h (by omega) (by omega) hf
  ·refine check_canon h (by omega) (by omega) ?_ ?_ (fun e => hf (Or.inr (Or.inr e)))
   ·cases e : lastz R.num with
    | false => rfl
    | true => exact absurd (Or.inl e) hf
   ·cases e : lastz R.den with
    | false => rfl
    | true => exact absurd (Or.inr (Or.inl e)) hf
/-- One struct of three cells at the head of a block. -/
def CcL (w : World) (i : Value) (wr : World) : Prop := ∃ k : Nat, k ≤ 1 ∧ i = .int .i64 (k : Int) ∧ Below w.heap.size w wr
theorem checks_one {w : World} {R : Raw} {a b : Option Addr} {n c m d g : Nat} (h : RwAt w R a n c b m d) (hg : NB w g R.neg a n c b m d) :
  Calls Try.prog 80 #[.slice (some ⟨g, 0, none⟩) 1 1] w (CkPost w (chkN R)) := by
 have H := Lib.hid h; have G := Lib.hid hg
 clear h hg
 go_enter Try.func80, Try.ntmps80
 go_wp2_with fail
 go_loopw [8] (fun i wr => ∃ k : Nat, i = .int .i64 (k : Int) ∧ ((k = 0 ∧ wr = w) ∨ (k = 1 ∧ chkN R = 0 ∧ Below w.heap.size w wr))) (fun i _ => 2 - (intOf i).toNat)
 case atStart => exact ⟨0, rfl, Or.inl ⟨rfl, rfl⟩⟩
 case round =>
  obtain ⟨k, rfl, ⟨rfl, rfl⟩ | ⟨rfl, hz, hB⟩⟩ := hrel
  ·obtain ⟨z0, z1, z2, _⟩ := G.out.reads
   obtain ⟨z, hz⟩ : ∃ z, chkN R = z := ⟨_, rfl⟩
   have HZ := Lib.hid hz
   have C := Lib.hid (check_any (H.out.below (below_new _ (.cells #[.bool R.neg, .slice a n c, .slice b m d] 26))))
   by_cases h0 : z = 0
   ·subst h0
    clear hz
    go_wp2_with fail
    refine C.out.mono ?_
    rintro e w2 ⟨rfl, B2⟩
    rw [HZ.out]
    have B2 := Lib.hid (Below.over (below_new _ _) (by simp) B2)
    go_wp2_with fail
    go_roundw
    case rel => exact ⟨1, by go_num, Or.inr ⟨rfl, HZ.out, B2.out⟩⟩
    case measure => simp [intOf]
   ·have hb : (z != 0) = true := by simp; exact h0
    clear hz
    go_wp2_with fail
    refine C.out.mono ?_
    rintro e w2 ⟨rfl, B2⟩
    rw [HZ.out]
    have B2 := Lib.hid (Below.over (below_new _ _) (by simp) B2)
    go_wp2_with fail
    go_ret
    exact ⟨by rw [HZ.out]; rfl, B2.out⟩
  ·have HZ := Lib.hid hz; have BR := Lib.hid hB
   clear hz hB
   go_wp2_with fail
   go_ret
   exact ⟨by rw [HZ.out]; rfl, BR.out⟩
theorem chkN_whole {num : List Nat} (hl : num.length ≤ 128) (hz : lastz num = false) : chkN ⟨false, num, [1]⟩ = 0 := by
 have e1 : lastz [1] = false := rfl
 have e2 : vl [1] = 1 := rfl
 unfold chkN
 simp only [e2]
 rw [if_neg (by simp; omega), if_neg, if_neg (by simp), if_neg (by rw [Nat.gcd_one_right]; simp)]
 rintro (e | e | e)
 ·rw [hz] at e; cases e
 ·rw [e1] at e; cases e
 ·simp at e
theorem chkN_zero {R : Raw} (h : chkN R = 0) : R.num.length ≤ 128 ∧ R.den.length ≤ 128 ∧ lastz R.num = false ∧ lastz R.den = false := by
 unfold chkN at h
 by_cases h1 : 128 < R.num.length ∨ 128 < R.den.length
 ·rw [if_pos h1] at h; omega
 ·rw [if_neg h1] at h
  by_cases h2 : lastz R.num = true ∨ lastz R.den = true ∨ R.den = []
  ·rw [if_pos h2] at h; omega
  ·refine ⟨by omega, by omega, ?_, ?_⟩
   ·cases e : lastz R.num with
    | false => rfl
    | true => exact absurd (Or.inl e) h2
   ·cases e : lastz R.den with
    | false => rfl
    | true => exact absurd (Or.inr (Or.inl e)) h2
theorem integers_ok {w : World} {num : List Nat} {a b : Option Addr} {n c d g : Nat} (h : RwAt w ⟨false, num, [1]⟩ a n c b 1 d) (hg : NB w g false a n c b 1 d) (hl : num.length ≤ 128) (hz : lastz num = false) :
  Calls Try.prog 60 #[.slice (some ⟨g, 0, none⟩) 1 1] w (CkPost w 0) := by
 have H := Lib.hid h; have G := Lib.hid hg
 have C := Lib.hid (checks_one h hg)
 have CZ := Lib.hid (chkN_whole hl hz)
 clear h hg hl hz
 go_enter Try.func60, Try.ntmps60
 go_wp2_with fail
 refine C.out.mono ?_
 rintro e w1 ⟨rfl, B1⟩
 rw [CZ.out]
 have G1 : Hid (NB w1 g false a n c b 1 d) := G.out.later B1 G.out.lt
 have L1 : Hid (LAt w1 (toL 1) b 1 d) := by have := H.out.den.below B1; rw [toL_one]; exact this
 have B1 := Lib.hid B1
 go_wp2_with fail
 go_loopw [13] (fun i wr => ∃ k : Nat, i = .int .i64 (k : Int) ∧ ((k = 0 ∧ wr = w1) ∨ (k = 1 ∧ Below w.heap.size w wr))) (fun i _ => 2 - (intOf i).toNat)
 case atStart => exact ⟨0, rfl, Or.inl ⟨rfl, rfl⟩⟩
 case round =>
  obtain ⟨k, rfl, ⟨rfl, rfl⟩ | ⟨rfl, hB⟩⟩ := hrel
  ·obtain ⟨z0, z1, z2, _⟩ := G1.out.reads
   have L2 := Lib.hid (L1.out.below (below_new _ (.cells #[.bool false, .slice a n c, .slice b 1 d] 26)))
   go_wp2_with fail
   refine (isOne_at L2.out).mono ?_
   rintro e w' ⟨rfl, rfl⟩
   have B2 := Lib.hid (Below.over B1.out B1.out.size (below_new _ (.cells #[.bool false, .slice a n c, .slice b 1 d] 26)))
   go_wp2_with fail
   go_roundw
   case rel => exact ⟨1, by go_num, Or.inr ⟨rfl, B2.out⟩⟩
   case measure => simp [intOf]
  ·have BR := Lib.hid hB
   clear hB
   go_wp2_with fail
   go_ret
   exact ⟨rfl, BR.out⟩
theorem length_ok {w : World} {num : List Nat} {a b : Option Addr} {n c d : Nat} (h : RwAt w ⟨false, num, [1]⟩ a n c b 1 d) (hl : num.length ≤ 128) (hz : lastz num = false) :
  Calls Try.prog 42 #[.agg #[.bool false, .slice a n c, .slice b 1 d]] w fun e w' => e = .returned (.tuple #[.int .i64 (Nh.blen (vl num) : Nat), .int .i64 0]) ∧ Below w.heap.size w w' := by
 have H := Lib.hid h
 have hn : n ≤ 128 := by rw [← h.num.len]; exact hl
 have cn := canon h.num.lm hz
 obtain ⟨P, hP⟩ : ∃ P, vl num = P := ⟨_, rfl⟩
 rw [hP] at cn ⊢
 obtain ⟨W1, hW1⟩ : ∃ W1, W1 = w.alloc (.cells #[.bool false, .slice a n c, .slice b 1 d] 26) := ⟨_, rfl⟩
 obtain ⟨W2, hW2⟩ : ∃ W2, W2 = W1.alloc (.cells #[.bool false, .slice a n c, .slice b 1 d] 26) := ⟨_, rfl⟩
 have B1 : Below w.heap.size w W1 := by rw [hW1]; exact below_new _ _
 have B2 : Below W1.heap.size W1 W2 := by rw [hW2]; exact below_new _ _
 have s1 : W1.heap.size = w.heap.size + 1 := by rw [hW1]; simp
 have G2 : NB W2 (w.heap.size + 1) false a n c b 1 d := by rw [← s1, hW2]; exact heap_alloc_new _ _
 have G1 : NB W1 w.heap.size false a n c b 1 d := by rw [hW1]; exact heap_alloc_new _ _
 have C := integers_ok ((h.below B1).below B2) G2 hl hz
 have LN : Hid (∀ W, Below W2.heap.size W2 W → LAt W (toL P) a n c) := by
  intro W hB
  have := ((h.num.below B1).below B2).below hB
  rwa [cn] at this
 have B02 := Lib.hid (Below.over B1 B1.size B2)
 have G12 : Hid (NB W2 w.heap.size false a n c b 1 d) := G1.later B2 (by omega)
 rw [hW2, hW1] at C
 have C := Lib.hid C
 have HW : Hid (W2 = (w.alloc (.cells #[.bool false, .slice a n c, .slice b 1 d] 26)).alloc (.cells #[.bool false, .slice a n c, .slice b 1 d] 26)) := by show _ = _; rw [hW2, hW1]
 clear h hl hz cn hP hW1 hW2 B1 B2 s1 G2 G1
 go_enter Try.func42, Try.ntmps42
 go_wp2_with fail
 refine C.out.mono ?_
 rintro e w3 ⟨rfl, B3⟩
 rw [← HW.out] at B3
 have G3 : NB w3 w.heap.size false a n c b 1 d := G12.out.later B3 G12.out.lt
 obtain ⟨z0, z1, z2, _⟩ := G3.reads
 have L3 := Lib.hid (LN.out w3 B3)
 have B03 := Lib.hid (Below.over B02.out B02.out.size B3)
 clear B3 G3
 go_wp2_with fail
 refine (len_any L3.out (by omega)).mono ?_
 rintro e w' ⟨rfl, rfl⟩
 go_wp2_with fail
 go_ret2
 exact ⟨rfl, B03.out⟩
def smallN (R : Raw) : Int := if chkN R ≠ 0 then chkN R else if 32 < Nh.blen (vl R.num) ∨ 8 < Nh.blen (vl R.den) then 3 else 0
theorem one_new (w : World) : LAt (w.alloc (.cells #[.int .u32 1] 55)) [1] (some ⟨w.heap.size, 0, none⟩) 1 1 := by
 have U : UB (w.alloc (.cells #[.int .u32 1] 55)) w.heap.size [1] := heap_alloc_new w _
 exact ⟨U.at_, rfl, Nat.le_refl _, by omega, fun y hy => by simp at hy; omega⟩
theorem small_bad {w : World} {R : Raw} {a b : Option Addr} {n c m d : Nat} (h : RwAt w R a n c b m d) (h0 : chkN R ≠ 0) :
  Calls Try.prog 27 #[.agg #[.bool R.neg, .slice a n c, .slice b m d]] w (CkPost w (smallN R)) := by
 have E : Hid (smallN R = chkN R) := by show _ = _; unfold smallN; rw [if_pos h0]
 have C := Lib.hid (check_any (h.below (below_new _ (.cells #[.bool R.neg, .slice a n c, .slice b m d] 26))))
 obtain ⟨z, hz⟩ : ∃ z, chkN R = z := ⟨_, rfl⟩
 rw [hz] at h0
 have hb : (z != 0) = true := by simp; exact h0
 have HZ := Lib.hid hz
 clear h h0 hz
 go_enter Try.func27, Try.ntmps27
 go_wp2_with fail
 refine C.out.mono ?_
 rintro e w2 ⟨rfl, B2⟩
 rw [HZ.out]
 have B2 := Lib.hid (Below.over (below_new _ _) (by simp) B2)
 go_wp2_with fail
 go_ret
 exact ⟨by rw [E.out, HZ.out]; rfl, B2.out⟩
theorem small_ok {w : World} {R : Raw} {a b : Option Addr} {n c m d : Nat} (h : RwAt w R a n c b m d) (h0 : chkN R = 0) :
  Calls Try.prog 27 #[.agg #[.bool R.neg, .slice a n c, .slice b m d]] w (CkPost w (smallN R)) := by
 obtain ⟨c1, c2, c3, c4⟩ := chkN_zero h0
 have E : Hid (smallN R = if 32 < Nh.blen (vl R.num) ∨ 8 < Nh.blen (vl R.den) then 3 else 0) := by show _ = _; unfold smallN; rw [if_neg (by rw [h0]; simp)]
 have C := Lib.hid (check_any (h.below (below_new _ (.cells #[.bool R.neg, .slice a n c, .slice b m d] 26))))
 have B1 : Hid (Below w.heap.size w (w.alloc (.cells #[.bool R.neg, .slice a n c, .slice b m d] 26))) := below_new _ _
 have G1 : Hid (NB (w.alloc (.cells #[.bool R.neg, .slice a n c, .slice b m d] 26)) w.heap.size R.neg a n c b m d) := heap_alloc_new w _
 have LE := Lib.hid (fun (W : World) (hB : Below w.heap.size w W) => length_ok (b := some ⟨W.heap.size, 0, none⟩) (d := 1) (⟨(h.num.below hB).below (below_new W (.cells #[.int .u32 1] 55)), one_new W⟩ : RwAt (W.alloc (.cells #[.int .u32 1] 55)) ⟨false, R.num, [1]⟩ a n c (some ⟨W.heap.size, 0, none⟩) 1 1) c1 c3)
 have LD := Lib.hid (fun (W : World) (hB : Below w.heap.size w W) => length_ok (b := some ⟨W.heap.size, 0, none⟩) (d := 1) (⟨(h.den.below hB).below (below_new W (.cells #[.int .u32 1] 55)), one_new W⟩ : RwAt (W.alloc (.cells #[.int .u32 1] 55)) ⟨false, R.den, [1]⟩ b m d (some ⟨W.heap.size, 0, none⟩) 1 1) c2 c4)
 have HZ := Lib.hid h0
 obtain ⟨x, hx⟩ : ∃ x, Nh.blen (vl R.num) = x := ⟨_, rfl⟩
 obtain ⟨y, hy⟩ : ∃ y, Nh.blen (vl R.den) = y := ⟨_, rfl⟩
 rw [hx] at E LE
 rw [hy] at E LD
 clear h h0 c1 c2 c3 c4 hx hy
 have E3 : Hid ((32 < x → smallN R = 3) ∧ (8 < y → smallN R = 3) ∧ (¬ 32 < x → ¬ 8 < y → smallN R = 0)) := by
  refine ⟨fun q => ?_, fun q => ?_, fun q r => ?_⟩
  ·rw [E.out, if_pos (Or.inl q)]
  ·rw [E.out, if_pos (Or.inr q)]
  ·rw [E.out, if_neg (fun k => by rcases k with k | k; exact q k; exact r k)]
 clear E
 go_enter Try.func27, Try.ntmps27
 go_wp2_with fail
 refine C.out.mono ?_
 rintro e w2 ⟨rfl, B2⟩
 rw [HZ.out]
 have G2 : Hid (NB w2 w.heap.size R.neg a n c b m d) := G1.out.later B2 G1.out.lt
 have B2 := Lib.hid (Below.over B1.out B1.out.size B2)
 obtain ⟨z0, z1, z2, _⟩ := G2.out.reads
 go_wp2_with fail
 refine (LE.out w2 B2.out).mono ?_
 rintro e w3 ⟨rfl, B3⟩
 have B23 := Below.over (below_new w2 (.cells #[.int .u32 1] 55)) (by simp) B3
 have G3 : Hid (NB w3 w.heap.size R.neg a n c b m d) := G2.out.later B23 G2.out.lt
 have B3 := Lib.hid (Below.over B2.out B2.out.size B23)
 clear z0 z1 z2 B23
 obtain ⟨z0, z1, z2, _⟩ := G3.out.reads
 go_wp2_with fail
 refine (LD.out w3 B3.out).mono ?_
 rintro e w4 ⟨rfl, B4⟩
 have B34 := Below.over (below_new w3 (.cells #[.int .u32 1] 55)) (by simp) B4
 have B4 := Lib.hid (Below.over B3.out B3.out.size B34)
 clear z0 z1 z2 B34
 by_cases hx : 32 < x
 ·go_wp2_with fail
  go_ret
  exact ⟨by rw [E3.out.1 hx]; rfl, B4.out⟩
 ·by_cases hy : 8 < y
  ·go_wp2_with fail
   go_ret
   exact ⟨by rw [E3.out.2.1 hy]; rfl, B4.out⟩
  ·go_wp2_with fail
   go_ret
   exact ⟨by rw [E3.out.2.2 hx hy]; rfl, B4.out⟩
theorem small_any {w : World} {R : Raw} {a b : Option Addr} {n c m d : Nat} (h : RwAt w R a n c b m d) :
  Calls Try.prog 27 #[.agg #[.bool R.neg, .slice a n c, .slice b m d]] w (CkPost w (smallN R)) := by
 by_cases h0 : chkN R = 0
 ·exact small_ok h h0
 ·exact small_bad h h0
end Go.Proofs.Ytijdglogadnbcaa
