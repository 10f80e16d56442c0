/- The reference's natural numbers in memory: digit, trim, CmpNat. -/
import Derived.Test.YtijdglogadnbcaaGreatZ02
import Derived.Test.YtijdglogadnbcaaGreatZ05
set_option linter.unusedVariables false
set_option linter.unusedSimpArgs false
set_option maxRecDepth 100000
set_option maxHeartbeats 40000000
namespace Go.Proofs.YtijdglogadnbcaaGreat
open Go.RowKit
/-- Digits in base 2^16 that lie at this slice. -/
def IAt (w : World) (l : List Nat) (a : Option Addr) : Prop := l ≠ [] → ∃ b o, a = some ⟨b, o, none⟩ ∧ ∀ i, i < l.length → w.cell? ⟨b, o + i, none⟩ = some (.int .i64 ((l.getD i 0 : Nat) : Int))
structure HAt (w : World) (l : List Nat) (a : Option Addr) (n c : Nat) : Prop where
 at_ : IAt w l a
 len : l.length = n
 le : n ≤ c
 cap : c ≤ 9223372036854775807
 lm : Nh.Lm l
theorem IAt.below {w w' : World} {l : List Nat} {a : Option Addr} (h : IAt w l a) (hb : Below w.heap.size w w') : IAt w' l a := by
 intro hne
 obtain ⟨b, o, e, d⟩ := h hne
 exact ⟨b, o, e, fun i hi => cell_later hb (Nat.le_refl _) (d i hi)⟩
theorem HAt.below {w w' : World} {l : List Nat} {a : Option Addr} {n c : Nat} (h : HAt w l a n c) (hb : Below w.heap.size w w') : HAt w' l a n c :=
 ⟨h.at_.below hb, h.len, h.le, h.cap, h.lm⟩
theorem hdigit_any {w : World} {l : List Nat} {a : Option Addr} {n c : Nat} (h : HAt w l a n c) (i : Nat) (hi : i ≤ 9223372036854775807) :
  Calls Tryz.prog 127 #[.slice a n c, .int .i64 (i : Int)] w fun e w' => e = .returned (.int .i64 ((l.getD i 0 : Nat) : Int)) ∧ w = w' := by
 have hc := h.cap; have hl := h.le
 by_cases hlt : i < n
 ·obtain ⟨b, o, rfl, d⟩ := h.at_ (by intro e; have := h.len; rw [e] at this; simp at this; omega)
  have p := d i (by rw [h.len]; exact hlt)
  obtain ⟨x, hx⟩ : ∃ x, l.getD i 0 = x := ⟨_, rfl⟩
  rw [hx] at p ⊢
  clear h d hx
  go_enter Tryz.func127, Tryz.ntmps127
  go_wp2_with fail
  go_ret
  exact ⟨rfl, rfl⟩
 ·have e : l.getD i 0 = 0 := by rw [List.getD_eq_getElem?_getD, List.getElem?_eq_none (by rw [h.len]; omega)]; rfl
  rw [e]
  clear h e
  have h2 : (n : Int) ≤ (i : Int) := by omega
  go_enter Tryz.func127, Tryz.ntmps127
  go_wp2_with fail
  go_ret
  exact ⟨rfl, rfl⟩
def HTm (l : List Nat) (a : Option Addr) (n c : Nat) (v : Value) : Prop := ∃ k : Nat, k ≤ n ∧ v = .slice a k c ∧ Nh.trm (l.take k) = Nh.trm l
theorem htake_last {l : List Nat} {k : Nat} (h : k < l.length) : l.take (k + 1) = l.take k ++ [l.getD k 0] := take_last h
theorem htrim_any {w : World} {l : List Nat} {a : Option Addr} {n c : Nat} (h : HAt w l a n c) :
  Calls Tryz.prog 128 #[.slice a n c] w fun e w' => e = .returned (.slice a (Nh.trm l).length c) ∧ w = w' := by
 have H := Lib.hid h
 have hc := h.le; have hm := h.cap
 clear h
 go_enter Tryz.func128, Tryz.ntmps128
 go_wp2_with fail
 go_loop [0] (fun v => HTm l a n c v) (fun v => match v with | .slice _ k _ => k | _ => 0)
 case atStart => exact ⟨n, Nat.le_refl _, rfl, by rw [List.take_of_length_le (by rw [H.out.len]; exact Nat.le_refl _)]⟩
 case round =>
  obtain ⟨k, hk, rfl, ht⟩ := hrel
  have HT := Lib.hid ht; clear ht
  by_cases h0 : k = 0
  ·have e0 : Hid ((Nh.trm l).length = 0) := by
    show _ = _
    rw [← HT.out, h0]
    have : Nh.trm [] = [] := Nh.toL_zero
    simp [this]
   subst h0
   go_wp2_with fail
   go_ret
   exact ⟨by rw [e0.out]; rfl, rfl⟩
  ·obtain ⟨m, rfl⟩ : ∃ m, k = m + 1 := ⟨k - 1, by omega⟩
   have hml : m < l.length := by rw [H.out.len]; omega
   obtain ⟨b, o, rfl, d⟩ := H.out.at_ (by intro e; rw [e] at hml; simp at hml)
   have p1 := d m hml
   clear d
   have TL := Lib.hid (htake_last hml)
   obtain ⟨x, hx⟩ : ∃ x, l.getD m 0 = x := ⟨_, rfl⟩
   rw [hx] at p1 TL
   have XL : x < 65536 := by rw [← hx]; exact Nh.lm_getD H.out.lm m
   clear hx
   by_cases hz : x = 0
   ·subst hz
    have T2 : Hid (Nh.trm (l.take m) = Nh.trm l) := by show _ = _; rw [← HT.out, TL.out, Nh.trm_snoc_zero]
    go_wp2_with fail
    go_round
    case rel => exact ⟨m, by omega, rfl, T2.out⟩
    case measure => simp
   ·have hb : ((x : Int) == 0) = false := by simp; omega
    have e0 : Hid ((Nh.trm l).length = m + 1) := by
     show _ = _
     rw [← HT.out, TL.out, Nh.trm_id]
     ·simp [List.length_take]; omega
     ·intro y hy
      rcases List.mem_append.1 hy with q | q
      ·exact H.out.lm y (List.mem_of_mem_take q)
      ·simp at q; omega
     ·right; simp; exact hz
    go_wp2_with fail
    go_ret
    exact ⟨by rw [e0.out]; rfl, rfl⟩
def HcL (la lb : List Nat) (n : Nat) (i : Value) : Prop := ∃ k : Nat, k ≤ n ∧ i = .int .i64 ((k : Int) - 1) ∧ ∀ j, k ≤ j → la.getD j 0 = lb.getD j 0
theorem hcmp_any {w : World} {la lb : List Nat} {a b : Option Addr} {n c m d : Nat} (ha : HAt w la a n c) (hb : HAt w lb b m d) :
  Calls Tryz.prog 85 #[.slice a n c, .slice b m d] w fun e w' => e = .returned (.int .i64 (cmpN (Nh.vl la) (Nh.vl lb))) ∧ w = w' := by
 have A := Lib.hid ha; have B := Lib.hid hb
 have h1 := ha.cap; have h2 := ha.le; have h3 := hb.cap; have h4 := hb.le
 have beyond : Hid (∀ j, max n m ≤ j → la.getD j 0 = lb.getD j 0) := fun j hj => by
  rw [List.getD_eq_getElem?_getD, List.getElem?_eq_none (by rw [A.out.len]; omega), List.getD_eq_getElem?_getD, List.getElem?_eq_none (by rw [B.out.len]; omega)]
 clear ha hb
 by_cases hnm : n < m
 ·have hnm2 : (n : Int) < (m : Int) := by omega
  have mxe : max (n : Int) (m : Int) = (m : Int) := by omega
  go_enter Tryz.func85, Tryz.ntmps85
  go_wp2_with fail
  go_loop [5] (fun i => HcL la lb m i) (fun i => (intOf i + 1).toNat)
  case atStart => exact ⟨m, Nat.le_refl _, rfl, fun j hj => beyond.out j (by omega)⟩
  case round =>
   obtain ⟨k, hk, rfl, hd⟩ := hrel
   have HD := Lib.hid hd
   clear hd
   by_cases h0 : k = 0
   ·subst h0
    have EQ : Hid (cmpN (Nh.vl la) (Nh.vl lb) = 0) := by
     show _ = _
     have := Nh.vh_ext (a := la) (b := lb) fun j => HD.out j (Nat.zero_le _)
     unfold cmpN; rw [if_neg (by omega), if_neg (by omega)]
    go_wp2_with fail
    go_ret
    exact ⟨by rw [EQ.out]; rfl, rfl⟩
   ·obtain ⟨q, rfl⟩ : ∃ q, k = q + 1 := ⟨k - 1, by omega⟩
    have e1 : ((q + 1 : Nat) : Int) - 1 = (q : Int) := by omega
    rw [e1]
    clear e1
    obtain ⟨x, hx⟩ : ∃ x, la.getD q 0 = x := ⟨_, rfl⟩
    obtain ⟨y, hy⟩ : ∃ y, lb.getD q 0 = y := ⟨_, rfl⟩
    have CA := hdigit_any A.out q (by omega)
    have CB := hdigit_any B.out q (by omega)
    rw [hx] at CA
    rw [hy] at CB
    have CA := Lib.hid CA; have CB := Lib.hid CB
    have HX := Lib.hid hx; have HY := Lib.hid hy
    clear hx hy
    rcases Nat.lt_trichotomy x y with c1 | c1 | c1
    ·have EQ : Hid (cmpN (Nh.vl la) (Nh.vl lb) = -1) := by
      show _ = _
      have := Nh.top_lt' A.out.lm (k := q) (fun j hj => HD.out j (by omega)) (by rw [HX.out, HY.out]; exact c1)
      unfold cmpN; rw [if_pos this]
     have l1 : (x : Int) < (y : Int) := by omega
     go_wp2_with fail
     refine CA.out.mono ?_
     rintro e w' ⟨rfl, rfl⟩
     go_wp2_with fail
     refine CB.out.mono ?_
     rintro e w' ⟨rfl, rfl⟩
     go_wp2_with fail
     go_ret
     exact ⟨by rw [EQ.out]; rfl, rfl⟩
    ·have D2 : Hid (∀ j, q ≤ j → la.getD j 0 = lb.getD j 0) := fun j hj => by
      by_cases e : j = q
      ·rw [e, HX.out, HY.out, c1]
      ·exact HD.out j (by omega)
     subst c1
     go_wp2_with fail
     refine CA.out.mono ?_
     rintro e w' ⟨rfl, rfl⟩
     go_wp2_with fail
     refine CB.out.mono ?_
     rintro e w' ⟨rfl, rfl⟩
     go_wp2_with fail
     go_round
     case rel => exact ⟨q, by omega, rfl, D2.out⟩
     case measure => simp [intOf]
    ·have EQ : Hid (cmpN (Nh.vl la) (Nh.vl lb) = 1) := by
      show _ = _
      have := Nh.top_lt' B.out.lm (k := q) (fun j hj => (HD.out j (by omega)).symm) (by rw [HX.out, HY.out]; exact c1)
      unfold cmpN; rw [if_neg (by omega), if_pos this]
     have l1 : (y : Int) < (x : Int) := by omega
     go_wp2_with fail
     refine CA.out.mono ?_
     rintro e w' ⟨rfl, rfl⟩
     go_wp2_with fail
     refine CB.out.mono ?_
     rintro e w' ⟨rfl, rfl⟩
     go_wp2_with fail
     go_ret
     exact ⟨by rw [EQ.out]; rfl, rfl⟩
 ·have hnm2 : (m : Int) ≤ (n : Int) := by omega
  have mxe : max (n : Int) (m : Int) = (n : Int) := by omega
  go_enter Tryz.func85, Tryz.ntmps85
  go_wp2_with fail
  go_loop [5] (fun i => HcL la lb n i) (fun i => (intOf i + 1).toNat)
  case atStart => exact ⟨n, Nat.le_refl _, rfl, fun j hj => beyond.out j (by omega)⟩
  case round =>
   obtain ⟨k, hk, rfl, hd⟩ := hrel
   have HD := Lib.hid hd
   clear hd
   by_cases h0 : k = 0
   ·subst h0
    have EQ : Hid (cmpN (Nh.vl la) (Nh.vl lb) = 0) := by
     show _ = _
     have := Nh.vh_ext (a := la) (b := lb) fun j => HD.out j (Nat.zero_le _)
     unfold cmpN; rw [if_neg (by omega), if_neg (by omega)]
    go_wp2_with fail
    go_ret
    exact ⟨by rw [EQ.out]; rfl, rfl⟩
   ·obtain ⟨q, rfl⟩ : ∃ q, k = q + 1 := ⟨k - 1, by omega⟩
    have e1 : ((q + 1 : Nat) : Int) - 1 = (q : Int) := by omega
    rw [e1]
    clear e1
    obtain ⟨x, hx⟩ : ∃ x, la.getD q 0 = x := ⟨_, rfl⟩
    obtain ⟨y, hy⟩ : ∃ y, lb.getD q 0 = y := ⟨_, rfl⟩
    have CA := hdigit_any A.out q (by omega)
    have CB := hdigit_any B.out q (by omega)
    rw [hx] at CA
    rw [hy] at CB
    have CA := Lib.hid CA; have CB := Lib.hid CB
    have HX := Lib.hid hx; have HY := Lib.hid hy
    clear hx hy
    rcases Nat.lt_trichotomy x y with c1 | c1 | c1
    ·have EQ : Hid (cmpN (Nh.vl la) (Nh.vl lb) = -1) := by
      show _ = _
      have := Nh.top_lt' A.out.lm (k := q) (fun j hj => HD.out j (by omega)) (by rw [HX.out, HY.out]; exact c1)
      unfold cmpN; rw [if_pos this]
     have l1 : (x : Int) < (y : Int) := by omega
     go_wp2_with fail
     refine CA.out.mono ?_
     rintro e w' ⟨rfl, rfl⟩
     go_wp2_with fail
     refine CB.out.mono ?_
     rintro e w' ⟨rfl, rfl⟩
     go_wp2_with fail
     go_ret
     exact ⟨by rw [EQ.out]; rfl, rfl⟩
    ·have D2 : Hid (∀ j, q ≤ j → la.getD j 0 = lb.getD j 0) := fun j hj => by
      by_cases e : j = q
      ·rw [e, HX.out, HY.out, c1]
      ·exact HD.out j (by omega)
     subst c1
     go_wp2_with fail
     refine CA.out.mono ?_
     rintro e w' ⟨rfl, rfl⟩
     go_wp2_with fail
     refine CB.out.mono ?_
     rintro e w' ⟨rfl, rfl⟩
     go_wp2_with fail
     go_round
     case rel => exact ⟨q, by omega, rfl, D2.out⟩
     case measure => simp [intOf]
    ·have EQ : Hid (cmpN (Nh.vl la) (Nh.vl lb) = 1) := by
      show _ = _
      have := Nh.top_lt' B.out.lm (k := q) (fun j hj => (HD.out j (by omega)).symm) (by rw [HX.out, HY.out]; exact c1)
      unfold cmpN; rw [if_neg (by omega), if_pos this]
     have l1 : (y : Int) < (x : Int) := by omega
     go_wp2_with fail
     refine CA.out.mono ?_
     rintro e w' ⟨rfl, rfl⟩
     go_wp2_with fail
     refine CB.out.mono ?_
     rintro e w' ⟨rfl, rfl⟩
     go_wp2_with fail
     go_ret
     exact ⟨by rw [EQ.out]; rfl, rfl⟩
end Go.Proofs.YtijdglogadnbcaaGreat
