/- solve.CheckRow. -/
import Derived.Test.YtijdglogadnbcaaGreatZ08
import Derived.Test.YtijdglogadnbcaaGreatRows
import Derived.Deep.Strs
import Derived.Lib.SmallJoins
set_option linter.unusedVariables false
set_option linter.unusedSimpArgs false
set_option maxRecDepth 100000
set_option maxHeartbeats 40000000
namespace Go.Proofs.YtijdglogadnbcaaGreat
open Go.RowKit Nt
/-- A coefficient as it was handed in. -/
structure Cf where
 var : Int
 by_ : Raw
instance : Inhabited Raw := ⟨⟨false, [], []⟩⟩
instance : Inhabited Cf := ⟨⟨0, default⟩⟩
def cf (l : List Cf) (i : Nat) : Cf := l.getD i default
/-- What is wrong with coefficient i. -/
def coefAt (u : Int) (l : List Cf) (i : Nat) : Int :=
 if (cf l i).var < 0 ∨ u ≤ (cf l i).var then 1
 else if 0 < i ∧ (cf l i).var ≤ (cf l (i - 1)).var then 2
 else if chkN (cf l i).by_ ≠ 0 then chkN (cf l i).by_
 else if (cf l i).by_.num.length = 0 then 2
 else smallN (cf l i).by_
def coefsTo (u : Int) (l : List Cf) : Nat → Int
 | 0 => 0
 | n + 1 => if coefsTo u l n ≠ 0 then coefsTo u l n else coefAt u l n
def rowN (u rel : Int) (l : List Cf) (bound : Raw) : Int :=
 if rel ≠ 1 ∧ rel ≠ 2 ∧ rel ≠ 3 then 1 else if 8 < l.length then 3 else if coefsTo u l l.length ≠ 0 then coefsTo u l l.length else smallN bound
theorem coefsTo_stay {u : Int} {l : List Cf} {k n : Nat} (h0 : coefsTo u l k = 0) (h : coefAt u l k ≠ 0) (hn : k < n) : coefsTo u l n = coefAt u l k := by
 obtain ⟨d, rfl⟩ : ∃ d, n = k + 1 + d := ⟨n - k - 1, by omega⟩
 clear hn
 induction d with
 | zero => show (if coefsTo u l k ≠ 0 then _ else _) = _; rw [if_neg (by rw [h0]; simp)]
 | succ d ih =>
  show (if coefsTo u l (k + 1 + d) ≠ 0 then coefsTo u l (k + 1 + d) else _) = _
  rw [if_pos (by rw [ih]; exact h), ih]
theorem coefsTo_next {u : Int} {l : List Cf} {k : Nat} (h0 : coefsTo u l k = 0) (h : coefAt u l k = 0) : coefsTo u l (k + 1) = 0 := by
 show (if coefsTo u l k ≠ 0 then _ else _) = _; rw [if_neg (by rw [h0]; simp)]; exact h
/-- Coefficients in memory. -/
def CfAt (w : World) (l : List Cf) (ca : Option Addr) : Prop :=
 l ≠ [] → ∃ g o, ca = some ⟨g, o, none⟩ ∧ ∀ i, i < l.length → ∃ a n c b m d,
  w.cell? ⟨g, o + i * 4, none⟩ = some (.int .i64 (cf l i).var) ∧ w.cell? ⟨g, o + i * 4 + 1, none⟩ = some (.bool (cf l i).by_.neg) ∧ w.cell? ⟨g, o + i * 4 + 2, none⟩ = some (.slice a n c) ∧ w.cell? ⟨g, o + i * 4 + 3, none⟩ = some (.slice b m d) ∧ RwAt w (cf l i).by_ a n c b m d
def CrL (w : World) (u : Int) (l : List Cf) (i : Value) (wr : World) : Prop := ∃ k : Nat, k ≤ l.length ∧ i = .int .i64 (k : Int) ∧ coefsTo u l k = 0 ∧ Below w.heap.size w wr
theorem row_coefs {w : World} {u rel : Int} {l : List Cf} {B : Raw} {ca a b : Option Addr} {nc cc n c m d : Nat} (hl : CfAt w l ca) (hB : RwAt w B a n c b m d) (hn : l.length = nc) (hc : nc ≤ cc) (hc2 : cc ≤ 9223372036854775807) (hr : rel = 1 ∨ rel = 2 ∨ rel = 3) (h8 : nc ≤ 8) :
  Calls Tryz.prog 14 #[.agg #[.slice ca nc cc, .int .i64 rel, .bool B.neg, .slice a n c, .slice b m d], .int .i64 u] w (CkPost w (rowN u rel l B)) := by
 have E : Hid (rowN u rel l B = if coefsTo u l l.length ≠ 0 then coefsTo u l l.length else smallN B) := by
  show _ = _; unfold rowN; rw [if_neg (by omega), if_neg (by omega)]
 have HL := Lib.hid hl; have HB := Lib.hid hB; have HN := Lib.hid hn
 have B0 : Hid (Below w.heap.size w (w.alloc (.cells #[.slice ca nc cc, .int .i64 rel, .bool B.neg, .slice a n c, .slice b m d] 27))) := below_new _ _
 have X0 : Hid ((w.alloc (.cells #[.slice ca nc cc, .int .i64 rel, .bool B.neg, .slice a n c, .slice b m d] 27)).heap[w.heap.size]? = some (.cells #[.slice ca nc cc, .int .i64 rel, .bool B.neg, .slice a n c, .slice b m d] 27 (0, 0))) := heap_alloc_new w _
 have S0 : Hid ((w.alloc (.cells #[.slice ca nc cc, .int .i64 rel, .bool B.neg, .slice a n c, .slice b m d] 27)).heap.size = w.heap.size + 1) := by show _ = _; simp
 clear hl hB hn
 have RD := Lib.hid (fun (W : World) (h : W.heap[w.heap.size]? = some (.cells #[.slice ca nc cc, .int .i64 rel, .bool B.neg, .slice a n c, .slice b m d] 27 (0, 0))) =>
  (show W.cell? ⟨w.heap.size, 0, none⟩ = some (.slice ca nc cc) ∧ W.cell? ⟨w.heap.size, 2, none⟩ = some (.bool B.neg) ∧ W.cell? ⟨w.heap.size, 3, none⟩ = some (.slice a n c) ∧ W.cell? ⟨w.heap.size, 4, none⟩ = some (.slice b m d) from
   ⟨by rw [cell_of_row W w.heap.size 0 _ _ _ h]; rfl, by rw [cell_of_row W w.heap.size 2 _ _ _ h]; rfl, by rw [cell_of_row W w.heap.size 3 _ _ _ h]; rfl, by rw [cell_of_row W w.heap.size 4 _ _ _ h]; rfl⟩))
 go_enter Tryz.func14, Tryz.ntmps14
 go_upto_block 0 with fail
 generalize w.alloc (.cells #[.slice ca nc cc, .int .i64 rel, .bool B.neg, .slice a n c, .slice b m d] 27) = W0 at *
 have Y0 : Hid (W0.cell? ⟨w.heap.size, 1, none⟩ = some (.int .i64 rel)) := by show _ = _; rw [cell_of_row W0 w.heap.size 1 _ _ _ X0.out]; rfl
 go_cut [8] (fun v W => v = .bool false ∧ W = W0)
 case first =>
  have y0 := Y0.out
  obtain ⟨q0, q2, q3, q4⟩ := RD.out W0 X0.out
  rcases hr with rfl | rfl | rfl
  all_goals
   go_wp2_with fail
   go_meet
   case rel => exact ⟨rfl, rfl⟩
 case rest =>
  obtain ⟨rfl, rfl⟩ := hcut
  obtain ⟨W1, rfl⟩ : ∃ W1 : World, W1 = wc := ⟨_, rfl⟩
  obtain ⟨q0, q2, q3, q4⟩ := RD.out W1 X0.out
  go_wp2_with fail
  go_loopw [30] (fun i wr => CrL W1 u l i wr) (fun i _ => nc - (intOf i).toNat)
  case atStart => exact ⟨0, Nat.zero_le _, rfl, rfl, Below.refl _ _⟩
  case round =>
   obtain ⟨k, hk, rfl, hz, hBr⟩ := hrel
   have Z := Lib.hid hz
   have BR := Lib.hid hBr
   have X1 := Lib.hid ((hBr.block w.heap.size (by rw [S0.out]; omega)).trans X0.out)
   have B1 := Lib.hid (Below.over B0.out B0.out.size hBr)
   rw [HN.out] at hk
   clear hz hBr q0 q2 q3 q4
   obtain ⟨q0, q2, q3, q4⟩ := RD.out wr X1.out
   by_cases hlt : k < nc
   ·obtain ⟨g, o, rfl, dd⟩ := HL.out (by intro e; have := HN.out; rw [e] at this; simp at this; omega)
    obtain ⟨ra, rn, rc, rb, rm, rd, p0, p1, p2, p3, hR⟩ := dd k (by rw [HN.out]; exact hlt)
    have ST := Lib.hid (fun (z : Int) (h : coefAt u l k = z) (h0 : z ≠ 0) => (show rowN u rel l B = z by rw [E.out, HN.out, coefsTo_stay Z.out (by rw [h]; exact h0) hlt, h, if_pos h0]))
    have CA : Hid (coefAt u l k = if (cf l k).var < 0 ∨ u ≤ (cf l k).var then 1 else if 0 < k ∧ (cf l k).var ≤ (cf l (k - 1)).var then 2 else if chkN (cf l k).by_ ≠ 0 then chkN (cf l k).by_ else if (cf l k).by_.num.length = 0 then 2 else smallN (cf l k).by_) := rfl
    have PV := Lib.hid (fun (h : 0 < k) => (show ∃ z, w.cell? ⟨g, o + (k - 1) * 4, none⟩ = some (.int .i64 z) ∧ (cf l (k - 1)).var = z from by
     obtain ⟨_, _, _, _, _, _, e, _⟩ := dd (k - 1) (by rw [HN.out]; omega)
     exact ⟨_, e, rfl⟩))
    clear dd
    obtain ⟨v, hv⟩ : ∃ v, (cf l k).var = v := ⟨_, rfl⟩
    obtain ⟨R, hRR⟩ : ∃ R, (cf l k).by_ = R := ⟨_, rfl⟩
    rw [hv] at p0 CA
    rw [hRR] at p1 hR CA
    have HR := Lib.hid hR
    have p0 := cell_later B1.out (Nat.le_refl _) p0
    have p1 := cell_later B1.out (Nat.le_refl _) p1
    have p2 := cell_later B1.out (Nat.le_refl _) p2
    have p3 := cell_later B1.out (Nat.le_refl _) p3
    have B2 : Hid (Below wr.heap.size wr (wr.alloc (.cells #[.int .i64 v, .bool R.neg, .slice ra rn rc, .slice rb rm rd] 72))) := below_new _ _
    clear hv hRR hR
    by_cases c1 : v < 0
    ·have E1 := Lib.hid (ST.out 1 (by rw [CA.out, if_pos (Or.inl c1)]) (by omega))
     go_wp2_with fail
     go_ret
     exact ⟨by rw [E1.out]; rfl, Below.over B1.out B1.out.size B2.out⟩
    ·have v0 : 0 ≤ v := by omega
     by_cases c2 : u ≤ v
     ·have E1 := Lib.hid (ST.out 1 (by rw [CA.out, if_pos (Or.inr c2)]) (by omega))
      clear c1
      go_wp2_with fail
      go_ret
      exact ⟨by rw [E1.out]; rfl, Below.over B1.out B1.out.size B2.out⟩
     ·have c2' : v < u := by omega
      have CA2 : Hid (coefAt u l k = if 0 < k ∧ v ≤ (cf l (k - 1)).var then 2 else if chkN R ≠ 0 then chkN R else if R.num.length = 0 then 2 else smallN R) := by show _ = _; rw [CA.out, if_neg (by omega)]
      clear c1 c2 CA
      have NW : Hid ((wr.alloc (.cells #[.int .i64 v, .bool R.neg, .slice ra rn rc, .slice rb rm rd] 72)).heap[wr.heap.size]? = some (.cells #[.int .i64 v, .bool R.neg, .slice ra rn rc, .slice rb rm rd] 72 (0, 0))) := heap_alloc_new wr _
      have X2 := Lib.hid ((B2.out.block w.heap.size (by have := (Array.getElem?_eq_some_iff.1 X1.out).1; exact this)).trans X1.out)
      have B3 := Lib.hid (Below.over B1.out B1.out.size B2.out)
      go_upto_region 10 with fail
      clear p0 p1 p2 p3 q0 q2 q3 q4
      generalize wr.alloc (.cells #[.int .i64 v, .bool R.neg, .slice ra rn rc, .slice rb rm rd] 72) = WA at *
      have n0 : WA.cell? ⟨wr.heap.size, 0, none⟩ = some (.int .i64 v) := by rw [cell_of_row WA wr.heap.size 0 _ _ _ NW.out]; rfl
      obtain ⟨q0, q2, q3, q4⟩ := RD.out WA X2.out
      by_cases c3 : 0 < k ∧ v ≤ (cf l (k - 1)).var
      ·obtain ⟨z, pz, hz⟩ := PV.out c3.1
       have E1 := Lib.hid (ST.out 2 (by rw [CA2.out, if_pos c3]) (by omega))
       have pz := cell_later B3.out (Nat.le_refl _) pz
       have kz : (0 : Int) < (k : Int) := by have := c3.1; omega
       have i1 : ((k : Int) - 1) = ((k - 1 : Nat) : Int) := by have := c3.1; omega
       have zl : v ≤ z := by rw [← hz]; exact c3.2
       have kz' : decide (0 < k) = true := by simp; exact c3.1
       have kz2 : 0 < k := c3.1
       have zl' : decide (v ≤ z) = true := by simp; exact zl
       have kl : (((k - 1 : Nat) : Int)) < (nc : Int) := by omega
       have kl0 : (0 : Int) ≤ ((k - 1 : Nat) : Int) := by omega
       clear c3 hz
       go_quiet (fail)
       go_wp2_with fail
       go_ret
       exact ⟨by rw [E1.out]; rfl, by obtain ⟨q, hq⟩ : ∃ q, q = nq := ⟨_, rfl⟩; exact Below.over B3.out B3.out.size (Qt.below ⟨nq, rfl⟩)⟩
      ·have CA3 : Hid (coefAt u l k = if chkN R ≠ 0 then chkN R else if R.num.length = 0 then 2 else smallN R) := by show _ = _; rw [CA2.out, if_neg c3]
       go_cut [45] (fun t W => t = .bool false ∧ Qt WA W)
       case first =>
        by_cases k0 : k = 0
        ·subst k0
         clear c3
         go_quiet (fail)
         go_wp2_with fail
         go_meet
         case rel => exact ⟨rfl, _, rfl⟩
        ·obtain ⟨z, pz, hz⟩ := PV.out (by omega)
         have pz := cell_later B3.out (Nat.le_refl _) pz
         have kz : (0 : Int) < (k : Int) := by omega
         have i1 : ((k : Int) - 1) = ((k - 1 : Nat) : Int) := by omega
         have zl : z < v := by rw [← hz]; omega
         have kz' : decide (0 < k) = true := by simp; omega
         have kz2 : 0 < k := by omega
         have zl' : decide (v ≤ z) = false := by simp; exact zl
         have kl : (((k - 1 : Nat) : Int)) < (nc : Int) := by omega
         have kl0 : (0 : Int) ≤ ((k - 1 : Nat) : Int) := by omega
         clear c3 hz
         go_quiet (fail)
         go_wp2_with fail
         go_meet
         case rel => exact ⟨rfl, _, rfl⟩
       case rest =>
        obtain ⟨rfl, hq⟩ := hcut
        have HQ := Lib.hid hq
        clear c3 n0 q0 q2 q3 q4 hq
        have N5 : Hid (wc.heap[wr.heap.size]? = some (.cells #[.int .i64 v, .bool R.neg, .slice ra rn rc, .slice rb rm rd] 72 (0, 0))) := by
         obtain ⟨q, e⟩ := HQ.out
         rw [e]; exact NW.out
        have B5 := Lib.hid (Below.over B3.out B3.out.size HQ.out.below)
        have BW5 := Lib.hid (Below.over BR.out BR.out.size (Below.over B2.out B2.out.size HQ.out.below))
        have S5 := (Array.getElem?_eq_some_iff.1 N5.out).1
        have C5 := Lib.hid (check_any (HR.out.below B5.out))
        have RL : Hid (R.num.length = rn) := HR.out.num.len
        have CL := Lib.hid (fun (W : World) (h : W.heap[wr.heap.size]? = some (.cells #[.int .i64 v, .bool R.neg, .slice ra rn rc, .slice rb rm rd] 72 (0, 0))) =>
         (show W.cell? ⟨wr.heap.size, 1, none⟩ = some (.bool R.neg) ∧ W.cell? ⟨wr.heap.size, 2, none⟩ = some (.slice ra rn rc) ∧ W.cell? ⟨wr.heap.size, 3, none⟩ = some (.slice rb rm rd) from
          ⟨by rw [cell_of_row W wr.heap.size 1 _ _ _ h]; rfl, by rw [cell_of_row W wr.heap.size 2 _ _ _ h]; rfl, by rw [cell_of_row W wr.heap.size 3 _ _ _ h]; rfl⟩))
        obtain ⟨m1, m2, m3⟩ := CL.out wc N5.out
        obtain ⟨z, hz⟩ : ∃ z, chkN R = z := ⟨_, rfl⟩
        rw [hz] at CA3
        have HZ := Lib.hid hz; clear hz
        obtain ⟨W5, rfl⟩ : ∃ W5 : World, W5 = wc := ⟨_, rfl⟩
        go_wp2_with fail
        refine C5.out.mono ?_
        rintro e w6 ⟨rfl, B6⟩
        rw [HZ.out]
        have N6 := Lib.hid ((B6.block wr.heap.size S5).trans N5.out)
        have BW6 := Lib.hid (Below.over BW5.out BW5.out.size B6)
        have B6 := Lib.hid (Below.over B5.out B5.out.size B6)
        clear m1 m2 m3 S5
        obtain ⟨m1, m2, m3⟩ := CL.out w6 N6.out
        by_cases z0 : z = 0
        ·by_cases r0 : rn = 0
         ·have E1 := Lib.hid (ST.out 2 (by rw [CA3.out, if_neg (by rw [z0]; simp), if_pos (by rw [RL.out]; exact r0)]) (by omega))
          have rz : ((rn : Int) == 0) = true := by simp; exact r0
          subst z0
          clear r0
          go_wp2_with fail
          go_ret
          exact ⟨by rw [E1.out]; rfl, B6.out⟩
         ·have rz : ((rn : Int) == 0) = false := by simp; exact r0
          have CA4 : Hid (coefAt u l k = smallN R) := by show _ = _; rw [CA3.out, if_neg (by rw [z0]; simp), if_neg (by rw [RL.out]; exact r0)]
          have C6 := Lib.hid (small_any (HR.out.below B6.out))
          obtain ⟨y, hy⟩ : ∃ y, smallN R = y := ⟨_, rfl⟩
          have HY := Lib.hid hy; clear hy
          subst z0
          clear r0
          go_wp2_with fail
          refine C6.out.mono ?_
          rintro e w7 ⟨rfl, B7⟩
          rw [HY.out]
          have BW7 := Lib.hid (Below.over BW6.out BW6.out.size B7)
          have B7 := Lib.hid (Below.over B6.out B6.out.size B7)
          by_cases y0 : y = 0
          ·have NX := Lib.hid (coefsTo_next Z.out (by rw [CA4.out, HY.out]; exact y0))
           subst y0
           go_wp2_with fail
           go_roundw
           case rel => exact ⟨k + 1, by rw [HN.out]; omega, by go_num, NX.out, BW7.out⟩
           case measure => simp [intOf]; omega
          ·have E1 := Lib.hid (ST.out y (by rw [CA4.out, HY.out]) y0)
           have yb : (y != 0) = true := by simp; exact y0
           clear y0
           go_wp2_with fail
           go_ret
           exact ⟨by rw [E1.out]; rfl, B7.out⟩
        ·have E1 := Lib.hid (ST.out z (by rw [CA3.out, if_pos z0]) z0)
         have zb : (z != 0) = true := by simp; exact z0
         have ze : (z == 0) = false := by simp; exact z0
         clear z0
         go_wp2_with fail
         go_ret
         exact ⟨by rw [E1.out]; rfl, B6.out⟩
   ·obtain rfl : nc = k := by omega
    have E2 : Hid (rowN u rel l B = smallN B) := by show _ = _; rw [E.out, HN.out, if_neg (by rw [Z.out]; simp)]
    have C := Lib.hid (small_any (HB.out.below B1.out))
    go_wp2_with fail
    refine C.out.mono ?_
    rintro e w2 ⟨rfl, B2⟩
    have B2 := Lib.hid (Below.over B1.out B1.out.size B2)
    go_wp2_with fail
    go_ret
    exact ⟨by rw [E2.out]; rfl, B2.out⟩
theorem row_rel {w : World} {u rel : Int} {l : List Cf} {B : Raw} {ca a b : Option Addr} {nc cc n c m d : Nat} (hr : rel ≠ 1 ∧ rel ≠ 2 ∧ rel ≠ 3) :
  Calls Tryz.prog 14 #[.agg #[.slice ca nc cc, .int .i64 rel, .bool B.neg, .slice a n c, .slice b m d], .int .i64 u] w (CkPost w (rowN u rel l B)) := by
 have E : Hid (rowN u rel l B = 1) := by show _ = _; unfold rowN; rw [if_pos hr]
 have b1 : (rel != 1) = true := by simp; exact hr.1
 have b2 : (rel != 2) = true := by simp; exact hr.2.1
 have b3 : (rel != 3) = true := by simp; exact hr.2.2
 clear hr
 go_enter Tryz.func14, Tryz.ntmps14
 go_wp2_with fail
 go_ret
 exact ⟨by rw [E.out]; rfl, below_new _ _⟩
theorem row_long {w : World} {u rel : Int} {l : List Cf} {B : Raw} {ca a b : Option Addr} {nc cc n c m d : Nat} (hn : l.length = nc) (hc : nc ≤ cc) (hc2 : cc ≤ 9223372036854775807) (hr : rel = 1 ∨ rel = 2 ∨ rel = 3) (h8 : 8 < nc) :
  Calls Tryz.prog 14 #[.agg #[.slice ca nc cc, .int .i64 rel, .bool B.neg, .slice a n c, .slice b m d], .int .i64 u] w (CkPost w (rowN u rel l B)) := by
 have E : Hid (rowN u rel l B = 3) := by show _ = _; unfold rowN; rw [if_neg (by omega), if_pos (by omega)]
 clear hn
 have h9 : (8 : Int) < (nc : Int) := by omega
 rcases hr with rfl | rfl | rfl
 all_goals
  go_enter Tryz.func14, Tryz.ntmps14
  go_wp2_with fail
  go_ret
  exact ⟨by rw [E.out]; rfl, below_new _ _⟩
/-- solve.CheckRow returns what is wrong with a row. -/
theorem row_any {w : World} {u rel : Int} {l : List Cf} {B : Raw} {ca a b : Option Addr} {nc cc n c m d : Nat} (hl : CfAt w l ca) (hB : RwAt w B a n c b m d) (hn : l.length = nc) (hc : nc ≤ cc) (hc2 : cc ≤ 9223372036854775807) :
  Calls Tryz.prog 14 #[.agg #[.slice ca nc cc, .int .i64 rel, .bool B.neg, .slice a n c, .slice b m d], .int .i64 u] w (CkPost w (rowN u rel l B)) := by
 by_cases hr : rel ≠ 1 ∧ rel ≠ 2 ∧ rel ≠ 3
 ·exact row_rel hr
 ·by_cases h8 : 8 < nc
  ·exact row_long hn hc hc2 (by omega) h8
  ·exact row_coefs hl hB hn hc hc2 (by omega) (by omega)
theorem cells25 : Tryz.prog.cellsOf 25 = 3 := by kernel_rfl
theorem cells27 : Tryz.prog.cellsOf 27 = 5 := by kernel_rfl
theorem cells23 : Tryz.prog.cellsOf 23 = 1 := by kernel_rfl
theorem cells22 : Tryz.prog.cellsOf 22 = 1 := by kernel_rfl
theorem cells72 : Tryz.prog.cellsOf 72 = 4 := by kernel_rfl
theorem cells111 : Tryz.prog.cellsOf 111 = 1 := by kernel_rfl
theorem cells3' : Tryz.prog.cellsOf 3 = 1 := by kernel_rfl
theorem cells4' : Tryz.prog.cellsOf 4 = 1 := by kernel_rfl
theorem ll3 {α : Type} {l : List α} (h : l.length = 3) : ∃ a b c, l = [a, b, c] := by
 match l, h with
 | [a, b, c], _ => exact ⟨a, b, c, rfl⟩
theorem ll4 {α : Type} {l : List α} (h : l.length = 4) : ∃ a b c d, l = [a, b, c, d] := by
 match l, h with
 | [a, b, c, d], _ => exact ⟨a, b, c, d, rfl⟩
theorem ll5 {α : Type} {l : List α} (h : l.length = 5) : ∃ a b c d e, l = [a, b, c, d, e] := by
 match l, h with
 | [a, b, c, d, e], _ => exact ⟨a, b, c, d, e, rfl⟩
theorem one_spot {w : World} {b o : Nat} {sp : Option Nat} {i : Nat} {v : Value} (h : w.cell? ((⟨b, o, sp⟩ : Addr).add i) = some v) : (i = 0 → sp = none) ∧ w.cell? ⟨b, o + i, none⟩ = some v := by
 have s0 := World.cell?_spot (w := w) (v := v) h
 by_cases hi : i = 0
 ·subst hi
  simp [Addr.add] at s0 h
  subst s0
  exact ⟨fun _ => rfl, by simpa using h⟩
 ·refine ⟨fun e => absurd e hi, ?_⟩
  simp only [Addr.add] at h
  simpa [hi] using h
/-- Four cells of an element. -/
theorem four_at {w : World} {b o : Nat} {sp : Option Nat} {i : Nat} {x y z u : Value} (h : w.cells? 0 ((⟨b, o, sp⟩ : Addr).add (i * 4)) 4 = some [x, y, z, u]) : (i = 0 → sp = none) ∧ w.cell? ⟨b, o + i * 4, none⟩ = some x ∧ w.cell? ⟨b, o + i * 4 + 1, none⟩ = some y ∧ w.cell? ⟨b, o + i * 4 + 2, none⟩ = some z ∧ w.cell? ⟨b, o + i * 4 + 3, none⟩ = some u := by
 obtain ⟨_, _, hc⟩ := World.cells?_some h
 have h0 := hc 0 (by omega)
 have h1 := hc 1 (by omega)
 have h2 := hc 2 (by omega)
 have h3 := hc 3 (by omega)
 rw [Deep.add_add] at h0 h1 h2 h3
 obtain ⟨s, h0⟩ := one_spot h0
 refine ⟨fun e => s (by omega), by simpa using h0, ?_, ?_, ?_⟩
 ·simpa [Nat.add_assoc] using (one_spot h1).2
 ·simpa [Nat.add_assoc] using (one_spot h2).2
 ·simpa [Nat.add_assoc] using (one_spot h3).2
variable {H : Type} {enc : TypeId × Value → H} {W : World} {sp : Nat → Bool} {hd : Bool}
theorem limbs_read {fuel : Nat} {v : Value} {x : DataW H × List MemPlace} (h : DataW.trod enc Tryz.prog W 0 sp hd fuel 23 [v] = some x) : ∃ l a n c, v = .slice a n c ∧ LAt W l a n c := by
 rcases Deep.open_slice1 Tryz.underlying23 cells111 h with ⟨e, _⟩ | ⟨a, len, cap, m, n, V, D, Pl, e, _, hlc, hcm, hm, _, hD⟩
 ·simp at e
  exact ⟨[], none, 0, 0, e, fun q => absurd rfl q, rfl, Nat.le_refl _, by omega, fun x hx => by simp at hx⟩
 ·simp at e
  have hml : len ≤ m := by rw [hm]; split <;> omega
  have each : ∀ i, i < len → ∃ y : Nat, y < 4294967296 ∧ W.cell? (a.add i) = some (.int .u32 (y : Int)) := by
   intro i hi
   obtain ⟨hc, ht⟩ := hD i (by omega)
   obtain ⟨z, e1, _, hw⟩ := DataW.trod_int Tryz.underlying111 ht
   simp at e1
   have hz : 0 ≤ z ∧ z < 4294967296 := by
    have e0 : IntKind.u32.min = 0 := by decide
    have e1 : IntKind.u32.max = 4294967295 := by decide
    simp only [Lit.wf, Bool.and_eq_true, decide_eq_true_eq, e0, e1] at hw
    omega
   refine ⟨z.toNat, by omega, ?_⟩
   rw [hc, e1, Int.toNat_of_nonneg hz.1]
  obtain ⟨f, hf⟩ := Deep.choose_lt each
  unfold maxLen at hcm
  refine ⟨(List.range len).map f, some a, len, cap, e, ?_, by simp, hlc, by omega, ?_⟩
  ·intro hne
   have hpos : 0 < len := by
    have := List.length_pos_iff.2 hne
    simpa using this
   obtain ⟨b, o, spot⟩ := a
   have hs := (one_spot (hf 0 hpos).2).1 rfl
   subst hs
   refine ⟨b, o, rfl, fun i hi => ?_⟩
   have hi' : i < len := by simpa using hi
   rw [(one_spot (hf i hi').2).2, List.getD_eq_getElem?_getD]
   simp [hi']
  ·intro y hy
   obtain ⟨i, hi, rfl⟩ := List.mem_map.1 hy
   exact (hf i (List.mem_range.1 hi)).1
theorem num_read {fuel : Nat} {cs : List Value} {x : DataW H × List MemPlace} (h : DataW.trod enc Tryz.prog W 0 sp hd fuel 25 cs = some x) :
  ∃ R a n c b m d, cs = [.bool R.neg, .slice a n c, .slice b m d] ∧ RwAt W R a n c b m d := by
 obtain ⟨y0, y1, y2, n, rfl, hl, h0, h1, h2⟩ := Deep.trod_struct3 Tryz.underlying25 h
 rw [cells25] at hl
 obtain ⟨c0, c1, c2, rfl⟩ := ll3 hl
 simp only [cells4', cells23] at h0 h1 h2
 obtain ⟨s, e0, _⟩ := DataW.trod_bool Tryz.underlying4 h0
 simp at e0
 subst e0
 obtain ⟨l1, a, n1, k1, e1, L1⟩ := limbs_read (v := c1) (by simpa using h1)
 obtain ⟨l2, b, n2, k2, e2, L2⟩ := limbs_read (v := c2) (by simpa using h2)
 subst e1 e2
 exact ⟨⟨s, l1, l2⟩, a, n1, k1, b, n2, k2, rfl, ⟨L1, L2⟩⟩
theorem coefs_read {fuel : Nat} {v : Value} {x : DataW H × List MemPlace} (h : DataW.trod enc Tryz.prog W 0 sp hd fuel 22 [v] = some x) : ∃ l ca nc cc, v = .slice ca nc cc ∧ CfAt W l ca ∧ l.length = nc ∧ nc ≤ cc ∧ cc ≤ 9223372036854775807 := by
 rcases Deep.open_slice Tryz.underlying22 h with ⟨e2, _⟩ | ⟨a, len, cap, m, n', D, Pl, e2, _, hlc, hcm, hm, _, hD⟩
 ·simp at e2
  exact ⟨[], none, 0, 0, e2, fun q => absurd rfl q, rfl, Nat.le_refl _, by omega⟩
 ·simp at e2
  have hml : len ≤ m := by rw [hm]; split <;> omega
  rw [cells72] at hD
  have each : ∀ i, i < len → ∃ q : Cf, ∃ a1 n1 c1 b1 m1 d1, W.cells? 0 (a.add (i * 4)) 4 = some [.int .i64 q.var, .bool q.by_.neg, .slice a1 n1 c1, .slice b1 m1 d1] ∧ RwAt W q.by_ a1 n1 c1 b1 m1 d1 := by
   intro i hi
   obtain ⟨cs', hc, ht⟩ := hD i (by omega)
   obtain ⟨z0, z1, k, _, kl, t0, t1⟩ := ChangeShapes.trod_struct2 Tryz.underlying72 ht
   rw [cells72] at kl
   obtain ⟨d0, d1, d2, d3, rfl⟩ := ll4 kl
   simp only [cells3', cells25] at t0 t1
   obtain ⟨v0, f0, _, _⟩ := DataW.trod_int Tryz.underlying3 t0
   simp at f0
   subst f0
   obtain ⟨R, a1, n1, c1, b1, m1, k1, e1, r⟩ := num_read t1
   simp at e1
   obtain ⟨rfl, rfl, rfl⟩ := e1
   exact ⟨⟨v0, R⟩, a1, n1, c1, b1, m1, k1, hc, r⟩
  obtain ⟨q, hq⟩ := Deep.choose_lt each
  unfold maxLen at hcm
  refine ⟨(List.range len).map q, some a, len, cap, e2, ?_, by simp, hlc, by omega⟩
  intro hne
  have hpos : 0 < len := by
   have := List.length_pos_iff.2 hne
   simpa using this
  obtain ⟨b, o, spot⟩ := a
  obtain ⟨_, _, _, _, _, _, h0, _⟩ := hq 0 hpos
  have hs := (four_at h0).1 rfl
  subst hs
  refine ⟨b, o, rfl, fun i hi => ?_⟩
  have hi' : i < len := by simpa using hi
  obtain ⟨a1, n1, c1, b1, m1, d1, hh, r⟩ := hq i hi'
  obtain ⟨_, k0, k1, k2, k3⟩ := four_at hh
  have e : cf ((List.range len).map q) i = q i := by
   unfold cf
   rw [List.getD_eq_getElem?_getD]
   simp [hi']
  rw [e]
  exact ⟨a1, n1, c1, b1, m1, d1, k0, k1, k2, k3, r⟩
/-- A ROW THAT CAME IN. -/
theorem rel_read {fuel : Nat} {cs : List Value} {x : DataW H × List MemPlace} (h : DataW.trod enc Tryz.prog W 0 sp hd fuel 27 cs = some x) :
  ∃ rel l B ca nc cc a n c b m d, cs = [.slice ca nc cc, .int .i64 rel, .bool B.neg, .slice a n c, .slice b m d] ∧ CfAt W l ca ∧ l.length = nc ∧ nc ≤ cc ∧ cc ≤ 9223372036854775807 ∧ RwAt W B a n c b m d := by
 obtain ⟨y0, y1, y2, n, rfl, hl, h0, h1, h2⟩ := Deep.trod_struct3 Tryz.underlying27 h
 rw [cells27] at hl
 obtain ⟨c0, c1, c2, c3, c4, rfl⟩ := ll5 hl
 simp only [cells3', cells22, cells25] at h0 h1 h2
 obtain ⟨l, ca, nc, cc, e0, r1, r2, r3, r4⟩ := coefs_read (v := c0) (by simpa using h0)
 obtain ⟨rel, e1, _, _⟩ := DataW.trod_int Tryz.underlying3 h1
 simp at e1
 obtain ⟨B, a, n, c, b, m, d, e2, r⟩ := num_read h2
 simp at e2
 obtain ⟨rfl, rfl, rfl⟩ := e2
 subst e0 e1
 exact ⟨rel, l, B, ca, nc, cc, a, n, c, b, m, d, rfl, r1, r2, r3, r4, r⟩
theorem rel_arg {cs : Array Value} {d : DataW H} {p : List MemPlace} (h : DataW.Trod enc Tryz.prog W 0 (fun _ => true) true 27 (.agg cs) d p) :
  ∃ rel l B ca nc cc a n c b m dd, Value.agg cs = .agg #[.slice ca nc cc, .int .i64 rel, .bool B.neg, .slice a n c, .slice b m dd] ∧ CfAt W l ca ∧ l.length = nc ∧ nc ≤ cc ∧ cc ≤ 9223372036854775807 ∧ RwAt W B a n c b m dd := by
 obtain ⟨fuel, hf⟩ := h
 obtain ⟨rel, l, B, ca, nc, cc, a, n, c, b, m, dd, ecs, r⟩ := rel_read hf
 refine ⟨rel, l, B, ca, nc, cc, a, n, c, b, m, dd, ?_, r⟩
 congr 1
 apply Array.toList_inj.1
 simpa [Value.cells] using ecs
end Go.Proofs.YtijdglogadnbcaaGreat
