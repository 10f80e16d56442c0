/- solve.CheckRow. -/
import Derived.Test.YtijdglogadnbcaaZ08
set_option linter.unusedVariables false
set_option linter.unusedSimpArgs false
set_option maxRecDepth 100000
set_option maxHeartbeats 40000000
namespace Go.Proofs.Ytijdglogadnbcaa
open Go.RowKit Nt
/-- A coefficient as it was handed in. -/
structure Cf where
 var : Int
 by_ : Raw
instance : Inhabited Raw := ⟨⟨false, [], []⟩⟩
instance : Inhabited Cf := ⟨⟨0, default⟩⟩
def cf (l : List Cf) (i : Nat) : Cf := l.getD i default
/-- What is wrong with coefficient i. -/
def coefAt (u : Int) (l : List Cf) (i : Nat) : Int :=
 if (cf l i).var < 0 ∨ u ≤ (cf l i).var then 1
 else if 0 < i ∧ (cf l i).var ≤ (cf l (i - 1)).var then 2
 else if chkN (cf l i).by_ ≠ 0 then chkN (cf l i).by_
 else if (cf l i).by_.num.length = 0 then 2
 else smallN (cf l i).by_
def coefsTo (u : Int) (l : List Cf) : Nat → Int
 | 0 => 0
 | n + 1 => if coefsTo u l n ≠ 0 then coefsTo u l n else coefAt u l n
def rowN (u rel : Int) (l : List Cf) (bound : Raw) : Int :=
 if rel ≠ 1 ∧ rel ≠ 2 ∧ rel ≠ 3 then 1 else if 8 < l.length then 3 else if coefsTo u l l.length ≠ 0 then coefsTo u l l.length else smallN bound
theorem coefsTo_stay {u : Int} {l : List Cf} {k n : Nat} (h0 : coefsTo u l k = 0) (h : coefAt u l k ≠ 0) (hn : k < n) : coefsTo u l n = coefAt u l k := by
 obtain ⟨d, rfl⟩ : ∃ d, n = k + 1 + d := ⟨n - k - 1, by omega⟩
 clear hn
 induction d with
 | zero => show (if coefsTo u l k ≠ 0 then _ else _) = _; rw [if_neg (by rw [h0]; simp)]
 | succ d ih =>
  show (if coefsTo u l (k + 1 + d) ≠ 0 then coefsTo u l (k + 1 + d) else _) = _
  rw [if_pos (by rw [ih]; exact h), ih]
theorem coefsTo_next {u : Int} {l : List Cf} {k : Nat} (h0 : coefsTo u l k = 0) (h : coefAt u l k = 0) : coefsTo u l (k + 1) = 0 := by
 show (if coefsTo u l k ≠ 0 then _ else _) = _; rw [if_neg (by rw [h0]; simp)]; exact h
/-- Coefficients in memory. -/
def CfAt (w : World) (l : List Cf) (ca : Option Addr) : Prop :=
 l ≠ [] → ∃ g o, ca = some ⟨g, o, none⟩ ∧ ∀ i, i < l.length → ∃ a n c b m d,
  w.cell? ⟨g, o + i * 4, none⟩ = some (.int .i64 (cf l i).var) ∧ w.cell? ⟨g, o + i * 4 + 1, none⟩ = some (.bool (cf l i).by_.neg) ∧ w.cell? ⟨g, o + i * 4 + 2, none⟩ = some (.slice a n c) ∧ w.cell? ⟨g, o + i * 4 + 3, none⟩ = some (.slice b m d) ∧ RwAt w (cf l i).by_ a n c b m d
def CrL (w : World) (u : Int) (l : List Cf) (i : Value) (wr : World) : Prop := ∃ k : Nat, k ≤ l.length ∧ i = .int .i64 (k : Int) ∧ coefsTo u l k = 0 ∧ Below w.heap.size w wr
theorem row_coefs {w : World} {u rel : Int} {l : List Cf} {B : Raw} {ca a b : Option Addr} {nc cc n c m d : Nat} (hl : CfAt w l ca) (hB : RwAt w B a n c b m d) (hn : l.length = nc) (hc : nc ≤ cc) (hc2 : cc ≤ 9223372036854775807) (hr : rel = 1 ∨ rel = 2 ∨ rel = 3) (h8 : nc ≤ 8) :
  Calls Try.prog 15 #[.agg #[.slice ca nc cc, .int .i64 rel, .bool B.neg, .slice a n c, .slice b m d], .int .i64 u] w (CkPost w (rowN u rel l B)) := by
 have E : Hid (rowN u rel l B = if coefsTo u l l.length ≠ 0 then coefsTo u l l.length else smallN B) := by
  show _ = _; unfold rowN; rw [if_neg (by omega), if_neg (by omega)]
 have HL := Lib.hid hl; have HB := Lib.hid hB; have HN := Lib.hid hn
 have B0 : Hid (Below w.heap.size w (w.alloc (.cells #[.slice ca nc cc, .int .i64 rel, .bool B.neg, .slice a n c, .slice b m d] 28))) := below_new _ _
 have X0 : Hid ((w.alloc (.cells #[.slice ca nc cc, .int .i64 rel, .bool B.neg, .slice a n c, .slice b m d] 28)).heap[w.heap.size]? = some (.cells #[.slice ca nc cc, .int .i64 rel, .bool B.neg, .slice a n c, .slice b m d] 28 (0, 0))) := heap_alloc_new w _
 have S0 : Hid ((w.alloc (.cells #[.slice ca nc cc, .int .i64 rel, .bool B.neg, .slice a n c, .slice b m d] 28)).heap.size = w.heap.size + 1) := by show _ = _; simp
 clear hl hB hn
 have RD := Lib.hid (fun (W : World) (h : W.heap[w.heap.size]? = some (.cells #[.slice ca nc cc, .int .i64 rel, .bool B.neg, .slice a n c, .slice b m d] 28 (0, 0))) =>
  (show W.cell? ⟨w.heap.size, 0, none⟩ = some (.slice ca nc cc) ∧ W.cell? ⟨w.heap.size, 2, none⟩ = some (.bool B.neg) ∧ W.cell? ⟨w.heap.size, 3, none⟩ = some (.slice a n c) ∧ W.cell? ⟨w.heap.size, 4, none⟩ = some (.slice b m d) from
   ⟨by rw [cell_of_row W w.heap.size 0 _ _ _ h]; rfl, by rw [cell_of_row W w.heap.size 2 _ _ _ h]; rfl, by rw [cell_of_row W w.heap.size 3 _ _ _ h]; rfl, by rw [cell_of_row W w.heap.size 4 _ _ _ h]; rfl⟩))
 go_enter Try.func15, Try.ntmps15
 go_upto_block 0 with fail
 generalize w.alloc (.cells #[.slice ca nc cc, .int .i64 rel, .bool B.neg, .slice a n c, .slice b m d] 28) = W0 at *
 have Y0 : Hid (W0.cell? ⟨w.heap.size, 1, none⟩ = some (.int .i64 rel)) := by show _ = _; rw [cell_of_row W0 w.heap.size 1 _ _ _ X0.out]; rfl
 go_cut [8] (fun v W => v = .bool false ∧ W = W0)
 case first =>
  have y0 := Y0.out
  obtain ⟨q0, q2, q3, q4⟩ := RD.out W0 X0.out
  rcases hr with rfl | rfl | rfl
  all_goals
   go_wp2_with fail
   go_meet
   case rel => exact ⟨rfl, rfl⟩
 case rest =>
  obtain ⟨rfl, rfl⟩ := hcut
  obtain ⟨W1, rfl⟩ : ∃ W1 : World, W1 = wc := ⟨_, rfl⟩
  obtain ⟨q0, q2, q3, q4⟩ := RD.out W1 X0.out
  go_wp2_with fail
  go_loopw [30] (fun i wr => CrL W1 u l i wr) (fun i _ => nc - (intOf i).toNat)
  case atStart => exact ⟨0, Nat.zero_le _, rfl, rfl, Below.refl _ _⟩
  case round =>
   obtain ⟨k, hk, rfl, hz, hBr⟩ := hrel
   have Z := Lib.hid hz
   have BR := Lib.hid hBr
   have X1 := Lib.hid ((hBr.block w.heap.size (by rw [S0.out]; omega)).trans X0.out)
   have B1 := Lib.hid (Below.over B0.out B0.out.size hBr)
   rw [HN.out] at hk
   clear hz hBr q0 q2 q3 q4
   obtain ⟨q0, q2, q3, q4⟩ := RD.out wr X1.out
   by_cases hlt : k < nc
   ·obtain ⟨g, o, rfl, dd⟩ := HL.out (by intro e; have := HN.out; rw [e] at this; simp at this; omega)
    obtain ⟨ra, rn, rc, rb, rm, rd, p0, p1, p2, p3, hR⟩ := dd k (by rw [HN.out]; exact hlt)
    have ST := Lib.hid (fun (z : Int) (h : coefAt u l k = z) (h0 : z ≠ 0) => (show rowN u rel l B = z by rw [E.out, HN.out, coefsTo_stay Z.out (by rw [h]; exact h0) hlt, h, if_pos h0]))
    have CA : Hid (coefAt u l k = if (cf l k).var < 0 ∨ u ≤ (cf l k).var then 1 else if 0 < k ∧ (cf l k).var ≤ (cf l (k - 1)).var then 2 else if chkN (cf l k).by_ ≠ 0 then chkN (cf l k).by_ else if (cf l k).by_.num.length = 0 then 2 else smallN (cf l k).by_) := rfl
    have PV := Lib.hid (fun (h : 0 < k) => (show ∃ z, w.cell? ⟨g, o + (k - 1) * 4, none⟩ = some (.int .i64 z) ∧ (cf l (k - 1)).var = z from by
     obtain ⟨_, _, _, _, _, _, e, _⟩ := dd (k - 1) (by rw [HN.out]; omega)
     exact ⟨_, e, rfl⟩))
    clear dd
    obtain ⟨v, hv⟩ : ∃ v, (cf l k).var = v := ⟨_, rfl⟩
    obtain ⟨R, hRR⟩ : ∃ R, (cf l k).by_ = R := ⟨_, rfl⟩
    rw [hv] at p0 CA
    rw [hRR] at p1 hR CA
    have HR := Lib.hid hR
    have p0 := cell_later B1.out (Nat.le_refl _) p0
    have p1 := cell_later B1.out (Nat.le_refl _) p1
    have p2 := cell_later B1.out (Nat.le_refl _) p2
    have p3 := cell_later B1.out (Nat.le_refl _) p3
    have B2 : Hid (Below wr.heap.size wr (wr.alloc (.cells #[.int .i64 v, .bool R.neg, .slice ra rn rc, .slice rb rm rd] 54))) := below_new _ _
    clear hv hRR hR
    by_cases c1 : v < 0
    ·have E1 := Lib.hid (ST.out 1 (by rw [CA.out, if_pos (Or.inl c1)]) (by omega))
     go_wp2_with fail
     go_ret
     exact ⟨by rw [E1.out]; rfl, Below.over B1.out B1.out.size B2.out⟩
    ·have v0 : 0 ≤ v := by omega
     by_cases c2 : u ≤ v
     ·have E1 := Lib.hid (ST.out 1 (by rw [CA.out, if_pos (Or.inr c2)]) (by omega))
      clear c1
      go_wp2_with fail
      go_ret
      exact ⟨by rw [E1.out]; rfl, Below.over B1.out B1.out.size B2.out⟩
     ·have c2' : v < u := by omega
      have CA2 : Hid (coefAt u l k = if 0 < k ∧ v ≤ (cf l (k - 1)).var then 2 else if chkN R ≠ 0 then chkN R else if R.num.length = 0 then 2 else smallN R) := by show _ = _; rw [CA.out, if_neg (by omega)]
      clear c1 c2 CA
      have NW : Hid ((wr.alloc (.cells #[.int .i64 v, .bool R.neg, .slice ra rn rc, .slice rb rm rd] 54)).heap[wr.heap.size]? = some (.cells #[.int .i64 v, .bool R.neg, .slice ra rn rc, .slice rb rm rd] 54 (0, 0))) := heap_alloc_new wr _
      have X2 := Lib.hid ((B2.out.block w.heap.size (by have := (Array.getElem?_eq_some_iff.1 X1.out).1; exact this)).trans X1.out)
      have B3 := Lib.hid (Below.over B1.out B1.out.size B2.out)
      go_upto_region 10 with fail
      clear p0 p1 p2 p3 q0 q2 q3 q4
      generalize wr.alloc (.cells #[.int .i64 v, .bool R.neg, .slice ra rn rc, .slice rb rm rd] 54) = WA at *
      have n0 : WA.cell? ⟨wr.heap.size, 0, none⟩ = some (.int .i64 v) := by rw [cell_of_row WA wr.heap.size 0 _ _ _ NW.out]; rfl
      obtain ⟨q0, q2, q3, q4⟩ := RD.out WA X2.out
      by_cases c3 : 0 < k ∧ v ≤ (cf l (k - 1)).var
      ·obtain ⟨z, pz, hz⟩ := PV.out c3.1
       have E1 := Lib.hid (ST.out 2 (by rw [CA2.out, if_pos c3]) (by omega))
       have pz := cell_later B3.out (Nat.le_refl _) pz
       have kz : (0 : Int) < (k : Int) := by have := c3.1; omega
       have i1 : ((k : Int) - 1) = ((k - 1 : Nat) : Int) := by have := c3.1; omega
       have zl : v ≤ z := by rw [← hz]; exact c3.2
       have kz' : decide (0 < k) = true := by simp; exact c3.1
       have kz2 : 0 < k := c3.1
       have zl' : decide (v ≤ z) = true := by simp; exact zl
       have kl : (((k - 1 : Nat) : Int)) < (nc : Int) := by omega
       have kl0 : (0 : Int) ≤ ((k - 1 : Nat) : Int) := by omega
       clear c3 hz
       go_quiet (fail)
       go_wp2_with fail
       go_ret
       exact ⟨by rw [E1.out]; rfl, by obtain ⟨q, hq⟩ : ∃ q, q = nq := ⟨_, rfl⟩; exact Below.over B3.out B3.out.size (Qt.below ⟨nq, rfl⟩)⟩
      ·have CA3 : Hid (coefAt u l k = if chkN R ≠ 0 then chkN R else if R.num.length = 0 then 2 else smallN R) := by show _ = _; rw [CA2.out, if_neg c3]
       go_cut [45] (fun t W => t = .bool false ∧ Qt WA W)
       case first =>
        by_cases k0 : k = 0
        ·subst k0
         clear c3
         go_quiet (fail)
         go_wp2_with fail
         go_meet
         case rel => exact ⟨rfl, _, rfl⟩
        ·obtain ⟨z, pz, hz⟩ := PV.out (by omega)
         have pz := cell_later B3.out (Nat.le_refl _) pz
         have kz : (0 : Int) < (k : Int) := by omega
         have i1 : ((k : Int) - 1) = ((k - 1 : Nat) : Int) := by omega
         have zl : z < v := by rw [← hz]; omega
         have kz' : decide (0 < k) = true := by simp; omega
         have kz2 : 0 < k := by omega
         have zl' : decide (v ≤ z) = false := by simp; exact zl
         have kl : (((k - 1 : Nat) : Int)) < (nc : Int) := by omega
         have kl0 : (0 : Int) ≤ ((k - 1 : Nat) : Int) := by omega
         clear c3 hz
         go_quiet (fail)
         go_wp2_with fail
         go_meet
         case rel => exact ⟨rfl, _, rfl⟩
       case rest =>
        obtain ⟨rfl, hq⟩ := hcut
        have HQ := Lib.hid hq
        clear c3 n0 q0 q2 q3 q4 hq
        have N5 : Hid (wc.heap[wr.heap.size]? = some (.cells #[.int .i64 v, .bool R.neg, .slice ra rn rc, .slice rb rm rd] 54 (0, 0))) := by
         obtain ⟨q, e⟩ := HQ.out
         rw [e]; exact NW.out
        have B5 := Lib.hid (Below.over B3.out B3.out.size HQ.out.below)
        have BW5 := Lib.hid (Below.over BR.out BR.out.size (Below.over B2.out B2.out.size HQ.out.below))
        have S5 := (Array.getElem?_eq_some_iff.1 N5.out).1
        have C5 := Lib.hid (check_any (HR.out.below B5.out))
        have RL : Hid (R.num.length = rn) := HR.out.num.len
        have CL := Lib.hid (fun (W : World) (h : W.heap[wr.heap.size]? = some (.cells #[.int .i64 v, .bool R.neg, .slice ra rn rc, .slice rb rm rd] 54 (0, 0))) =>
         (show W.cell? ⟨wr.heap.size, 1, none⟩ = some (.bool R.neg) ∧ W.cell? ⟨wr.heap.size, 2, none⟩ = some (.slice ra rn rc) ∧ W.cell? ⟨wr.heap.size, 3, none⟩ = some (.slice rb rm rd) from
          ⟨by rw [cell_of_row W wr.heap.size 1 _ _ _ h]; rfl, by rw [cell_of_row W wr.heap.size 2 _ _ _ h]; rfl, by rw [cell_of_row W wr.heap.size 3 _ _ _ h]; rfl⟩))
        obtain ⟨m1, m2, m3⟩ := CL.out wc N5.out
        obtain ⟨z, hz⟩ : ∃ z, chkN R = z := ⟨_, rfl⟩
        rw [hz] at CA3
        have HZ := Lib.hid hz; clear hz
        obtain ⟨W5, rfl⟩ : ∃ W5 : World, W5 = wc := ⟨_, rfl⟩
        go_wp2_with fail
        refine C5.out.mono ?_
        rintro e w6 ⟨rfl, B6⟩
        rw [HZ.out]
        have N6 := Lib.hid ((B6.block wr.heap.size S5).trans N5.out)
        have BW6 := Lib.hid (Below.over BW5.out BW5.out.size B6)
        have B6 := Lib.hid (Below.over B5.out B5.out.size B6)
        clear m1 m2 m3 S5
        obtain ⟨m1, m2, m3⟩ := CL.out w6 N6.out
        by_cases z0 : z = 0
        ·by_cases r0 : rn = 0
         ·have E1 := Lib.hid (ST.out 2 (by rw [CA3.out, if_neg (by rw [z0]; simp), if_pos (by rw [RL.out]; exact r0)]) (by omega))
          have rz : ((rn : Int) == 0) = true := by simp; exact r0
          subst z0
          clear r0
          go_wp2_with fail
          go_ret
          exact ⟨by rw [E1.out]; rfl, B6.out⟩
         ·have rz : ((rn : Int) == 0) = false := by simp; exact r0
          have CA4 : Hid (coefAt u l k = smallN R) := by show _ = _; rw [CA3.out, if_neg (by rw [z0]; simp), if_neg (by rw [RL.out]; exact r0)]
          have C6 := Lib.hid (small_any (HR.out.below B6.out))
          obtain ⟨y, hy⟩ : ∃ y, smallN R = y := ⟨_, rfl⟩
          have HY := Lib.hid hy; clear hy
          subst z0
          clear r0
          go_wp2_with fail
          refine C6.out.mono ?_
          rintro e w7 ⟨rfl, B7⟩
          rw [HY.out]
          have BW7 := Lib.hid (Below.over BW6.out BW6.out.size B7)
          have B7 := Lib.hid (Below.over B6.out B6.out.size B7)
          by_cases y0 : y = 0
          ·have NX := Lib.hid (coefsTo_next Z.out (by rw [CA4.out, HY.out]; exact y0))
           subst y0
           go_wp2_with fail
           go_roundw
           case rel => exact ⟨k + 1, by rw [HN.out]; omega, by go_num, NX.out, BW7.out⟩
           case measure => simp [intOf]; omega
          ·have E1 := Lib.hid (ST.out y (by rw [CA4.out, HY.out]) y0)
           have yb : (y != 0) = true := by simp; exact y0
           clear y0
           go_wp2_with fail
           go_ret
           exact ⟨by rw [E1.out]; rfl, B7.out⟩
        ·have E1 := Lib.hid (ST.out z (by rw [CA3.out, if_pos z0]) z0)
         have zb : (z != 0) = true := by simp; exact z0
         have ze : (z == 0) = false := by simp; exact z0
         clear z0
         go_wp2_with fail
         go_ret
         exact ⟨by rw [E1.out]; rfl, B6.out⟩
   ·obtain rfl : nc = k := by omega
    have E2 : Hid (rowN u rel l B = smallN B) := by show _ = _; rw [E.out, HN.out, if_neg (by rw [Z.out]; simp)]
    have C := Lib.hid (small_any (HB.out.below B1.out))
    go_wp2_with fail
    refine C.out.mono ?_
    rintro e w2 ⟨rfl, B2⟩
    have B2 := Lib.hid (Below.over B1.out B1.out.size B2)
    go_wp2_with fail
    go_ret
    exact ⟨by rw [E2.out]; rfl, B2.out⟩
theorem row_rel {w : World} {u rel : Int} {l : List Cf} {B : Raw} {ca a b : Option Addr} {nc cc n c m d : Nat} (hr : rel ≠ 1 ∧ rel ≠ 2 ∧ rel ≠ 3) :
  Calls Try.prog 15 #[.agg #[.slice ca nc cc, .int .i64 rel, .bool B.neg, .slice a n c, .slice b m d], .int .i64 u] w (CkPost w (rowN u rel l B)) := by
 have E : Hid (rowN u rel l B = 1) := by show _ = _; unfold rowN; rw [if_pos hr]
 have b1 : (rel != 1) = true := by simp; exact hr.1
 have b2 : (rel != 2) = true := by simp; exact hr.2.1
 have b3 : (rel != 3) = true := by simp; exact hr.2.2
 clear hr
 go_enter Try.func15, Try.ntmps15
 go_wp2_with fail
 go_ret
 exact ⟨by rw [E.out]; rfl, below_new _ _⟩
theorem row_long {w : World} {u rel : Int} {l : List Cf} {B : Raw} {ca a b : Option Addr} {nc cc n c m d : Nat} (hn : l.length = nc) (hc : nc ≤ cc) (hc2 : cc ≤ 9223372036854775807) (hr : rel = 1 ∨ rel = 2 ∨ rel = 3) (h8 : 8 < nc) :
  Calls Try.prog 15 #[.agg #[.slice ca nc cc, .int .i64 rel, .bool B.neg, .slice a n c, .slice b m d], .int .i64 u] w (CkPost w (rowN u rel l B)) := by
 have E : Hid (rowN u rel l B = 3) := by show _ = _; unfold rowN; rw [if_neg (by omega), if_pos (by omega)]
 clear hn
 have h9 : (8 : Int) < (nc : Int) := by omega
 rcases hr with rfl | rfl | rfl
 all_goals
  go_enter Try.func15, Try.ntmps15
  go_wp2_with fail
  go_ret
  exact ⟨by rw [E.out]; rfl, below_new _ _⟩
/-- solve.CheckRow returns what is wrong with a row. -/
theorem row_any {w : World} {u rel : Int} {l : List Cf} {B : Raw} {ca a b : Option Addr} {nc cc n c m d : Nat} (hl : CfAt w l ca) (hB : RwAt w B a n c b m d) (hn : l.length = nc) (hc : nc ≤ cc) (hc2 : cc ≤ 9223372036854775807) :
  Calls Try.prog 15 #[.agg #[.slice ca nc cc, .int .i64 rel, .bool B.neg, .slice a n c, .slice b m d], .int .i64 u] w (CkPost w (rowN u rel l B)) := by
 by_cases hr : rel ≠ 1 ∧ rel ≠ 2 ∧ rel ≠ 3
 ·exact row_rel hr
 ·by_cases h8 : 8 < nc
  ·exact row_long hn hc hc2 (by omega) h8
  ·exact row_coefs hl hB hn hc hc2 (by omega) (by omega)
end Go.Proofs.Ytijdglogadnbcaa
/- Bland's rule ends: how often variables can be exchanged. No program. -/
namespace Go.Proofs.Ytijdglogadnbcaa.Bl
theorem first_of (E : Nat → Prop) (s m : Nat) : (∀ t, s ≤ t → t < s + m → ¬ E t) ∨ ∃ t1, s ≤ t1 ∧ t1 < s + m ∧ E t1 ∧ ∀ t, s ≤ t → t < t1 → ¬ E t := by
 induction m with
 | zero => left; intro t h1 h2; omega
 | succ m ih =>
  rcases ih with h | ⟨t1, h1, h2, h3, h4⟩
  ·by_cases e : E (s + m)
   ·right; exact ⟨s + m, by omega, by omega, e, fun t a b => h t a b⟩
   ·left
    intro t h1 h2
    by_cases q : t = s + m
    ·subst q; exact e
    ·exact h t h1 (by omega)
  ·right; exact ⟨t1, h1, by omega, h3, h4⟩
/-- A run of L exchanges: nb t: the variables that are columns at time t. -/
structure Ex (nb : Nat → Nat → Prop) (inn out : Nat → Nat) (L : Nat) : Prop where
 hin : ∀ t, t < L → nb t (inn t)
 hout : ∀ t, t < L → ¬ nb t (out t)
 next : ∀ t, t < L → ∀ j, nb (t + 1) j ↔ (nb t j ∧ j ≠ inn t) ∨ j = out t
theorem Ex.stay {nb : Nat → Nat → Prop} {inn out : Nat → Nat} {L : Nat} (h : Ex nb inn out L) {r s t : Nat} (hst : s ≤ t) (ht : t ≤ L) (hn : ∀ k, s ≤ k → k < t → inn k ≠ r ∧ out k ≠ r) : nb t r ↔ nb s r := by
 obtain ⟨d, rfl⟩ : ∃ d, t = s + d := ⟨t - s, by omega⟩
 clear hst
 induction d with
 | zero => exact Iff.rfl
 | succ d ih =>
  have i1 := ih (by omega) fun k a b => hn k a (by omega)
  have i2 := h.next (s + d) (by omega) r
  have i3 := hn (s + d) (by omega) (by omega)
  rw [← i1, show s + (d + 1) = s + d + 1 from by omega, i2]
  constructor
  ·rintro (⟨a, _⟩ | a)
   ·exact a
   ·exact absurd a.symm i3.2
  ·intro a
   exact Or.inl ⟨a, fun e => i3.1 e.symm⟩
/-- No variable leaves and comes back while only lesser ones are exchanged. -/
def NoBack (inn out : Nat → Nat) (L : Nat) : Prop :=
 ∀ r t1 t2, t1 < t2 → t2 < L → out t1 = r → inn t2 = r → (∀ t, t1 ≤ t → t ≤ t2 → inn t ≤ r ∧ out t ≤ r) → (∀ t, t1 < t → t < t2 → inn t ≠ r ∧ out t ≠ r) → False
theorem window {nb : Nat → Nat → Prop} {inn out : Nat → Nat} {L : Nat} (h : Ex nb inn out L) (k : NoBack inn out L) (r : Nat) :
  ∀ s m, s + m ≤ L → (∀ t, s ≤ t → t < s + m → inn t < r ∧ out t < r) → m + 1 ≤ 3 ^ r := by
 induction r with
 | zero =>
  intro s m hm hb
  rcases Nat.eq_zero_or_pos m with e | e
  ·subst e; simp
  ·have := (hb s (Nat.le_refl _) (by omega)).1; omega
 | succ r ih =>
  have quiet : ∀ s m, s + m ≤ L → (∀ t, s ≤ t → t < s + m → inn t < r + 1 ∧ out t < r + 1) → (∀ t, s ≤ t → t < s + m → ¬ (inn t = r ∨ out t = r)) → m + 1 ≤ 3 ^ r := by
   intro s m hm hb hq
   refine ih s m hm fun t a b => ?_
   have h1 := hb t a b
   have h2 := hq t a b
   omega
  have low : ∀ s m, s + m ≤ L → (∀ t, s ≤ t → t < s + m → inn t < r + 1 ∧ out t < r + 1) → ¬ nb s r → m + 1 ≤ 2 * 3 ^ r := by
   intro s m hm hb hn
   have p : 1 ≤ 3 ^ r := Nat.pos_of_ne_zero (by simp)
   rcases first_of (fun t => inn t = r ∨ out t = r) s m with q | ⟨t1, h1, h2, h3, h4⟩
   ·have := quiet s m hm hb q; omega
   ·have n1 : ¬ nb t1 r := by rw [h.stay h1 (by omega) fun k a b => ⟨fun e => h4 k a b (Or.inl e), fun e => h4 k a b (Or.inr e)⟩]; exact hn
    have o1 : out t1 = r := by
     rcases h3 with e | e
     ·exact absurd (e ▸ h.hin t1 (by omega)) n1
     ·exact e
    have n2 : nb (t1 + 1) r := (h.next t1 (by omega) r).2 (Or.inr o1.symm)
    have c1 := quiet s (t1 - s) (by omega) (fun t a b => hb t a (by omega)) (fun t a b => h4 t a (by omega))
    have c2 : s + m - t1 - 1 + 1 ≤ 3 ^ r := by
     refine quiet (t1 + 1) (s + m - t1 - 1) (by omega) (fun t a b => hb t (by omega) (by omega)) fun t a b hE => ?_
     rcases first_of (fun t => inn t = r ∨ out t = r) (t1 + 1) (s + m - t1 - 1) with q | ⟨t2, g1, g2, g3, g4⟩
     ·exact q t a b hE
     ·have n3 : nb t2 r := by rw [h.stay g1 (by omega) fun k a b => ⟨fun e => g4 k a b (Or.inl e), fun e => g4 k a b (Or.inr e)⟩]; exact n2
      have i2 : inn t2 = r := by
       rcases g3 with e | e
       ·exact e
       ·exact absurd (e ▸ n3) (h.hout t2 (by omega))
      refine k r t1 t2 (by omega) (by omega) o1 i2 (fun t a b => ?_) fun t a b => ?_
      ·have := hb t (by omega) (by omega); omega
      ·have := g4 t (by omega) b
       exact ⟨fun e => this (Or.inl e), fun e => this (Or.inr e)⟩
    omega
  intro s m hm hb
  rw [Nat.pow_succ]
  have p : 1 ≤ 3 ^ r := Nat.pos_of_ne_zero (by simp)
  by_cases hn : nb s r
  ·rcases first_of (fun t => inn t = r ∨ out t = r) s m with q | ⟨t1, h1, h2, h3, h4⟩
   ·have := quiet s m hm hb q; omega
   ·have n1 : nb t1 r := by rw [h.stay h1 (by omega) fun k a b => ⟨fun e => h4 k a b (Or.inl e), fun e => h4 k a b (Or.inr e)⟩]; exact hn
    have i1 : inn t1 = r := by
     rcases h3 with e | e
     ·exact e
     ·exact absurd (e ▸ n1) (h.hout t1 (by omega))
    have n2 : ¬ nb (t1 + 1) r := by
     rw [h.next t1 (by omega) r]
     rintro (⟨_, e⟩ | e)
     ·exact e i1.symm
     ·exact h.hout t1 (by omega) (e ▸ n1)
    have c1 := quiet s (t1 - s) (by omega) (fun t a b => hb t a (by omega)) (fun t a b => h4 t a (by omega))
    have c2 := low (t1 + 1) (s + m - t1 - 1) (by omega) (fun t a b => hb t (by omega) (by omega)) n2
    omega
  ·have := low s m hm hb hn; omega
/-- With N variables a run has fewer than 3^N exchanges. -/
theorem run_ends {nb : Nat → Nat → Prop} {inn out : Nat → Nat} {L N : Nat} (h : Ex nb inn out L) (k : NoBack inn out L) (hb : ∀ t, t < L → inn t < N ∧ out t < N) : L < 3 ^ N :=
 window h k N 0 L (by omega) fun t _ b => hb t (by omega)
/-- Sums. -/
def sm : Nat → (Nat → Rat) → Rat
 | 0, _ => 0
 | n + 1, f => sm n f + f n
theorem sm_le {n : Nat} {f : Nat → Rat} (h : ∀ j, j < n → f j ≤ 0) : sm n f ≤ 0 := by
 induction n with
 | zero => exact Rat.le_refl
 | succ n ih =>
  have h1 := ih fun j hj => h j (by omega)
  have h2 := h n (by omega)
  show sm n f + f n ≤ 0
  grind
theorem sm_lt {n r : Nat} {f : Nat → Rat} (h : ∀ j, j < n → f j ≤ 0) (hr : r < n) (h2 : f r < 0) : sm n f < 0 := by
 induction n with
 | zero => omega
 | succ n ih =>
  show sm n f + f n < 0
  by_cases e : r = n
  ·subst e
   have := sm_le (n := r) fun j hj => h j (by omega)
   grind
  ·have := ih (fun j hj => h j (by omega)) (by omega)
   have := h n (by omega)
   grind
theorem sm_congr {n : Nat} {f g : Nat → Rat} (h : ∀ j, j < n → f j = g j) : sm n f = sm n g := by
 induction n with
 | zero => rfl
 | succ n ih => show sm n f + f n = sm n g + g n; rw [ih fun j hj => h j (by omega), h n (by omega)]
theorem sm_add (n : Nat) (f g : Nat → Rat) : sm n (fun j => f j + g j) = sm n f + sm n g := by
 induction n with
 | zero => show (0 : Rat) = 0 + 0; grind
 | succ n ih => show sm n _ + _ = (sm n f + f n) + (sm n g + g n); rw [ih]; grind
theorem sm_mul (n : Nat) (a : Rat) (f : Nat → Rat) : sm n (fun j => a * f j) = a * sm n f := by
 induction n with
 | zero => show (0 : Rat) = a * 0; grind
 | succ n ih => show sm n _ + _ = a * (sm n f + f n); rw [ih]; grind
theorem sm_zero {n : Nat} {f : Nat → Rat} (h : ∀ j, j < n → f j = 0) : sm n f = 0 := by
 induction n with
 | zero => rfl
 | succ n ih => show sm n f + f n = 0; rw [ih fun j hj => h j (by omega), h n (by omega)]; grind
theorem sm_one {n r : Nat} {f : Nat → Rat} (hr : r < n) (h : ∀ j, j < n → j ≠ r → f j = 0) : sm n f = f r := by
 induction n with
 | zero => omega
 | succ n ih =>
  show sm n f + f n = f r
  by_cases e : r = n
  ·subst e; rw [sm_zero fun j hj => h j (by omega) (by omega)]; grind
  ·rw [ih (by omega) fun j hj hne => h j (by omega) hne, h n (by omega) (by omega)]; grind
/-- Exchanges that move nothing: rise j, fall j: j has room above, below; c t: the goal as a sum of columns; d t: what follows a move of the column inn t. -/
structure Still (nb : Nat → Nat → Prop) (inn out : Nat → Nat) (c d : Nat → Nat → Rat) (rise fall : Nat → Prop) (N g L : Nat) : Prop where
 ex : Ex nb inn out L
 lt : ∀ t, t < L → inn t < N ∧ out t < N
 csup : ∀ t, t < L → ∀ j, c t j ≠ 0 → nb t j
 dsup : ∀ t, t < L → ∀ j, d t j ≠ 0 → nb t j → j = inn t
 goal : ∀ t u, t < L → u < L → d u g = sm N (fun j => c t j * d u j)
 good : ∀ t, t < L → (0 < c t (inn t) ∧ rise (inn t) ∧ 0 < d t (inn t)) ∨ (c t (inn t) < 0 ∧ fall (inn t) ∧ d t (inn t) < 0)
 least : ∀ t, t < L → ∀ j, j < inn t → nb t j → ¬ (0 < c t j ∧ rise j) ∧ ¬ (c t j < 0 ∧ fall j)
 block : ∀ t, t < L → (0 < d t (out t) ∧ ¬ rise (out t)) ∨ (d t (out t) < 0 ∧ ¬ fall (out t))
 first : ∀ t, t < L → ∀ j, j < out t → ¬ nb t j → (0 < d t j → rise j) ∧ (d t j < 0 → fall j)
theorem mul_neg_of {a b : Rat} (h : (a < 0 ∧ 0 < b) ∨ (0 < a ∧ b < 0)) : a * b < 0 := by
 rcases h with ⟨h1, h2⟩ | ⟨h1, h2⟩
 ·have := Rat.mul_pos (show 0 < -a by grind) h2; grind
 ·have := Rat.mul_pos h1 (show 0 < -b by grind); grind
theorem mul_pos_of {a b : Rat} (h : (0 < a ∧ 0 < b) ∨ (a < 0 ∧ b < 0)) : 0 < a * b := by
 rcases h with ⟨h1, h2⟩ | ⟨h1, h2⟩
 ·exact Rat.mul_pos h1 h2
 ·have := Rat.mul_pos (show 0 < -a by grind) (show 0 < -b by grind); grind
theorem mul_nonpos_of {a b : Rat} (h1 : 0 < a → b ≤ 0) (h2 : a < 0 → 0 ≤ b) : a * b ≤ 0 := by
 by_cases e1 : 0 < a
 ·by_cases e : b = 0
  ·subst e; grind
  ·have := mul_neg_of (a := a) (b := b) (Or.inr ⟨e1, by have := h1 e1; grind⟩); grind
 ·by_cases e2 : a < 0
  ·by_cases e : b = 0
   ·subst e; grind
   ·have := mul_neg_of (a := a) (b := b) (Or.inl ⟨e2, by have := h2 e2; grind⟩); grind
  ·have : a = 0 := by grind
   subst this; grind
theorem Still.noBack {nb : Nat → Nat → Prop} {inn out : Nat → Nat} {c d : Nat → Nat → Rat} {rise fall : Nat → Prop} {N g L : Nat} (h : Still nb inn out c d rise fall N g L) : NoBack inn out L := by
 intro r t1 t2 hlt hL ho hi hb hq
 have L1 : t1 < L := by omega
 -- the goal rises along d t1
 have up : 0 < d t1 g := by
  rw [h.goal t1 t1 L1 L1, sm_one (r := inn t1) (h.lt t1 L1).1]
  ·exact mul_pos_of ((h.good t1 L1).imp (fun q => ⟨q.1, q.2.2⟩) fun q => ⟨q.1, q.2.2⟩)
  ·intro j _ hj
   by_cases e : c t1 j = 0
   ·rw [e]; grind
   ·have := h.dsup t1 L1 j
    by_cases e2 : d t1 j = 0
    ·rw [e2]; grind
    ·exact absurd (this e2 (h.csup t1 L1 j e)) hj
 have hne : inn t1 ≠ r := fun e => h.ex.hout t1 L1 (by rw [ho, ← e]; exact h.ex.hin t1 L1)
 have gr := h.good t2 hL
 have bl := h.block t1 L1
 rw [hi] at gr
 rw [ho] at bl
 have down : d t1 g < 0 := by
  rw [h.goal t2 t1 hL L1]
  refine sm_lt (r := r) (fun j hj => ?_) (by rw [← ho]; exact (h.lt t1 L1).2) ?_
  ·rcases Nat.lt_trichotomy j r with q | q | q
   ·by_cases ec : c t2 j = 0
    ·rw [ec]; grind
    ·have nj := h.csup t2 hL j ec
     have ls := h.least t2 hL j (by omega) nj
     have key : (0 < d t1 j → rise j) ∧ (d t1 j < 0 → fall j) := by
      by_cases nb1 : nb t1 j
      ·refine ⟨fun p => ?_, fun p => ?_⟩
       ·have e := h.dsup t1 L1 j (by grind) nb1
        subst e
        rcases h.good t1 L1 with ⟨_, a, _⟩ | ⟨_, _, a⟩
        ·exact a
        ·grind
       ·have e := h.dsup t1 L1 j (by grind) nb1
        subst e
        rcases h.good t1 L1 with ⟨_, _, a⟩ | ⟨_, a, _⟩
        ·grind
        ·exact a
      ·exact h.first t1 L1 j (by omega) nb1
     refine mul_nonpos_of (fun p => ?_) fun p => ?_
     ·have := ls.1
      by_cases z : 0 < d t1 j
      ·exact absurd ⟨p, key.1 z⟩ this
      ·grind
     ·have := ls.2
      by_cases z : d t1 j < 0
      ·exact absurd ⟨p, key.2 z⟩ this
      ·grind
   ·subst q
    have : c t2 j * d t1 j < 0 := mul_neg_of (by
     rcases gr with ⟨a1, a2, _⟩ | ⟨a1, a2, _⟩ <;> rcases bl with ⟨b1, b2⟩ | ⟨b1, b2⟩
     ·exact absurd a2 b2
     ·exact Or.inr ⟨a1, b1⟩
     ·exact Or.inl ⟨a1, b1⟩
     ·exact absurd a2 b2)
    grind
   ·by_cases ec : c t2 j = 0
    ·rw [ec]; grind
    ·have nj := h.csup t2 hL j ec
     have nj1 : nb t1 j := by
      refine (h.ex.stay (r := j) (Nat.le_of_lt hlt) (by omega) fun k a b => ?_).1 nj
      have := hb k a (by omega)
      omega
     by_cases e2 : d t1 j = 0
     ·rw [e2]; grind
     ·have e := h.dsup t1 L1 j e2 nj1
      have := (hb t1 (Nat.le_refl _) (by omega)).1
      omega
  ·exact mul_neg_of (by
    rcases gr with ⟨a1, a2, _⟩ | ⟨a1, a2, _⟩ <;> rcases bl with ⟨b1, b2⟩ | ⟨b1, b2⟩
    ·exact absurd a2 b2
    ·exact Or.inr ⟨a1, b1⟩
    ·exact Or.inl ⟨a1, b1⟩
    ·exact absurd a2 b2)
 grind
theorem Still.ends {nb : Nat → Nat → Prop} {inn out : Nat → Nat} {c d : Nat → Nat → Rat} {rise fall : Nat → Prop} {N g L : Nat} (h : Still nb inn out c d rise fall N g L) : L < 3 ^ N :=
 run_ends h.ex h.noBack h.lt
end Go.Proofs.Ytijdglogadnbcaa.Bl
