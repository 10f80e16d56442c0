/- lp.New: relations of its loops. No program. -/
import Derived.Test.YtijdglogadnbcaaZ29
set_option linter.unusedVariables false
set_option linter.unusedSimpArgs false
set_option maxRecDepth 100000
set_option maxHeartbeats 40000000
namespace Go.Proofs.Ytijdglogadnbcaa
open Go.RowKit Nt Bl
def FrL (n0 : Nat) (w : World) (p low high now n N : Nat) (T : Nat → Nat → Rat) (v : Value) (wr : World) : Prop :=
 ∃ (k : Nat) (fv : Value), k ≤ n ∧ v = .int .i64 (k : Int) ∧ Pt n0 wr { Z0 p low high now n N T with hf := fv, fv := fv, nf := k } ∧ Below n0 w wr
theorem fr_step {n0 p low high now n N k : Nat} {T : Nat → Nat → Rat} {W1 w4 w : World} {fv v4 : Value} (PA : Pt n0 W1 { Z0 p low high now n N T with hf := fv, fv := fv, nf := k }) (hO : Ow w4 n0 3 1 v4 (k + 1) (ints 0 k ++ [.int .i64 (k : Int)])) (hG : W1.grownBy w4 fv.ownBlock) (hB : Below n0 w W1) (hs : n0 ≤ W1.heap.size) :
  w4.cell? ⟨p, 5, none⟩ = some fv ∧ w4.frozen? ⟨p, 5, none⟩ = false ∧ Pt n0 (w4.setCell ⟨p, 5, none⟩ v4) { Z0 p low high now n N T with hf := v4, fv := v4, nf := k + 1 } ∧ Below n0 w (w4.setCell ⟨p, 5, none⟩ v4) := by
 have e : ints 0 (k + 1) = ints 0 k ++ [.int .i64 (k : Int)] := by rw [ints_succ, Nat.zero_add]
 have P4 := PA.appF (fv' := v4) (by rw [show ({ Z0 p low high now n N T with hf := fv, fv := fv, nf := k } : PtL).nf = k from rfl, e]; exact hO) hG rfl
 have nf : Nu fv := PA.fo.nuv
 exact ⟨P4.head.2.2.2.2.2.1, P4.head.2.2.2.2.2.2.2 5, P4.setF nf, (below_own hB PA.fo.own hs hG).setCell PA.ge.1 _⟩
/-- All rows in one block. -/
def AlA (W : World) (gA : Nat) (xs : List Value) : Prop := ∃ cur : Array Value, W.heap[gA]? = some (.cells cur 28 (0, 0)) ∧ cur.toList.take xs.length = xs
theorem AlA.cell {W : World} {gA j : Nat} {xs : List Value} {u : Value} (h : AlA W gA xs) (hu : xs[j]? = some u) : W.cell? ⟨gA, j, none⟩ = some u := by
 obtain ⟨cur, hg, ht⟩ := h
 rw [cell_of_row W gA j _ _ _ hg]
 rw [← ht, List.getElem?_take] at hu
 split at hu
 ·simpa using hu
 ·simp at hu
theorem AlA.blk {W : World} {gA : Nat} {xs : List Value} (h : AlA W gA xs) : Blk W gA 28 := by obtain ⟨cur, hg, _⟩ := h; exact ⟨_, hg⟩
theorem AlA.keep {W W' : World} {gA : Nat} {xs : List Value} (h : AlA W gA xs) (e : W'.heap[gA]? = W.heap[gA]?) : AlA W' gA xs := by obtain ⟨cur, hg, r⟩ := h; exact ⟨cur, e.trans hg, r⟩
theorem AlA.below {W W' : World} {gA : Nat} {xs : List Value} (h : AlA W gA xs) (hb : Below W.heap.size W W') : AlA W' gA xs := h.keep (hb.block _ h.blk.lt)
theorem al_own {w5 : World} {b n : Nat} {v5 : Value} {xs : List Value} (h : w5.ownsRow b 28 5 v5 n xs) (hn : 0 < n) : ∃ gA cA, v5 = .slice (some ⟨gA, 0, none⟩) n cA ∧ AlA w5 gA xs := by
 rcases h.2 with ⟨_, e⟩ | ⟨g, cap, cur, rfl, hb, hg, _, _, _, ht⟩
 ·omega
 ·exact ⟨g, cap, rfl, cur, hg, by rw [h.1]; exact ht⟩
def AlV (W : World) (al : List Rl) (m : Nat) (xs : List Value) : Prop := xs.length = (m + 1) * 5 ∧ ∀ i, i < m + 1 → ∃ ca cc N, (∀ k, k < 5 → xs[i * 5 + k]? = (row5 (rq al i) ca cc N)[k]?) ∧ QfAt W (rq al i).cs ca ∧ (rq al i).cs.length ≤ cc ∧ cc ≤ 9223372036854775807 ∧ (i < m → RA W (rq al i).bd N)
theorem al_all {W : World} {rows : List Rl} {vs : List Value} {gl : List (Nat × Rat)} {ga : Option Addr} {gc m : Nat} (hv : RlV W rows vs) (hm : rows.length = m) (hg : QfAt W gl ga) (hc : gl.length ≤ gc) (hc2 : gc ≤ 9223372036854775807) : AlV W (alR rows gl) m (vs ++ [.slice ga gl.length gc, .int .i64 0, .bool false, .slice none 0 0, .slice none 0 0]) := by
 subst hm
 refine ⟨by simp [hv.1]; omega, fun i hi => ?_⟩
 by_cases e : i < rows.length
 ·obtain ⟨ca, cc, N, a, b⟩ := hv.2 i e
  have er : rq (alR rows gl) i = rq rows i := by unfold alR; exact rq_append e
  rw [er]
  refine ⟨ca, cc, N, fun k hk => ?_, b.co, b.le, b.cap, fun _ => b.bd⟩
  rw [List.getElem?_append_left (by rw [hv.1]; omega)]; exact a k hk
 ·obtain rfl : i = rows.length := by omega
  have er : rq (alR rows gl) rows.length = ⟨gl, 0, 0⟩ := by unfold alR; exact rq_last
  rw [er]
  refine ⟨ga, gc, Nw.zero, fun k hk => ?_, hg, hc, hc2, fun q => absurd q (Nat.lt_irrefl _)⟩
  rw [List.getElem?_append_right (by rw [hv.1]; omega), hv.1, Nat.add_sub_cancel_left]
  rfl
theorem AlV.below {W W' : World} {al : List Rl} {m : Nat} {xs : List Value} (h : AlV W al m xs) (hb : Below W.heap.size W W') : AlV W' al m xs :=
 ⟨h.1, fun i hi => by
  obtain ⟨ca, cc, N, a, b, c, d, e⟩ := h.2 i hi
  exact ⟨ca, cc, N, a, b.below hb, c, d, fun q => RAt.below (e q) hb⟩⟩
/-- The row that stands at i. -/
theorem AlA.row {W : World} {gA i : Nat} {al : List Rl} {xs : List Value} {ca : Option Addr} {cc : Nat} {N : Nw} (h : AlA W gA xs) (hi : ∀ k, k < 5 → xs[i * 5 + k]? = (row5 (rq al i) ca cc N)[k]?) :
  W.cell? ⟨gA, i * 5, none⟩ = some (.slice ca (rq al i).cs.length cc) ∧ W.cell? ⟨gA, i * 5 + 1, none⟩ = some (.int .i64 (rq al i).rel) ∧ W.cell? ⟨gA, i * 5 + 2, none⟩ = some (.bool N.s) ∧ W.cell? ⟨gA, i * 5 + 3, none⟩ = some (.slice N.a N.n N.c) ∧ W.cell? ⟨gA, i * 5 + 4, none⟩ = some (.slice N.b N.m N.d) :=
 ⟨h.cell (hi 0 (by omega)), h.cell (hi 1 (by omega)), h.cell (hi 2 (by omega)), h.cell (hi 3 (by omega)), h.cell (hi 4 (by omega))⟩
def Zi (p low high now n N : Nat) (PB : Pb) (fv bv tv : Value) (line : Nat → Nat) (i : Nat) : PtL := ⟨p, low, high, now, n, N, bv, fv, tv, bv, fv, tv, i, i, n, i, line, loT PB i, hiT PB i, PB.T⟩
def NwL (n0 : Nat) (w : World) (p low high now n N m : Nat) (PB : Pb) (fv : Value) (gA : Nat) (xs : List Value) (v : Value) (wr : World) : Prop :=
 ∃ (i : Nat) (bv tv : Value) (line : Nat → Nat), i ≤ m + 1 ∧ v = .int .i64 (i : Int) ∧ Pt n0 wr (Zi p low high now n N PB fv bv tv line i) ∧ AlA wr gA xs ∧ Below n0 w wr
def CoL (wr : World) (g2 n r : Nat) (cs : List (Nat × Rat)) (cells : Array Value) (v : Value) (W : World) : Prop :=
 ∃ j : Nat, j ≤ cs.length ∧ v = .int .i64 (j : Int) ∧ LineR W g2 n (cofT cs j) ∧ Below wr.heap.size wr W ∧ W.heap[r]? = some (.cells cells 28 (0, 0))
theorem start_i {n0 p low high now n N : Nat} {rows : List Rl} {gl : List (Nat × Rat)} {fv : Value} {wr : World} (h : Pt n0 wr { Z0 p low high now n N (Pb0 (lns rows) n (cof gl)).T with hf := fv, fv := fv, nf := n }) :
  Pt n0 wr (Zi p low high now n N (Pb0 (lns rows) n (cof gl)) fv (.slice none 0 0) (.slice none 0 0) (fun _ => 0) 0) := by
 have e1 : loT (Pb0 (lns rows) n (cof gl)) 0 = fun _ => none := by
  funext v
  unfold loT
  split
  ·rename_i hv; exact low_end (Or.inl hv)
  ·rfl
 have e2 : hiT (Pb0 (lns rows) n (cof gl)) 0 = fun _ => none := by
  funext v
  unfold hiT
  split
  ·rename_i hv; exact high_end (Or.inl hv)
  ·rfl
 unfold Zi
 rw [e1, e2]
 exact h
theorem end_i {n0 p low high now n N m : Nat} {rows : List Rl} {gl : List (Nat × Rat)} {fv bv tv : Value} {line : Nat → Nat} {wr : World} (h : Pt n0 wr (Zi p low high now n N (Pb0 (lns rows) n (cof gl)) fv bv tv line (m + 1))) (hm : rows.length = m) (hN : N = n + m + 1) (b : n ≤ 60 ∧ m ≤ 60) : ∃ L, L.p = p ∧ PAt n0 wr L (Pb0 (lns rows) n (cof gl)) := by
 have em : (Pb0 (lns rows) n (cof gl)).m = m + 1 := by show (lns rows).length + 1 = _; rw [lns_len, hm]
 have en : (Pb0 (lns rows) n (cof gl)).n = n := rfl
 refine h.done (P := Pb0 (lns rows) n (cof gl)) ⟨rfl, rfl, rfl⟩ ⟨em.symm, em.symm, em.symm, rfl⟩ rfl ?_ (by omega) ⟨by omega, by omega⟩ (fun v hv => ?_) (fun v hv => ?_) (fun _ => rfl) (fun _ => rfl) (fun _ => rfl) (fun _ _ => rfl)
 ·show N = _; omega
 ·show loT _ (m + 1) v = _
  unfold loT
  rw [if_pos (by omega)]
 ·show hiT _ (m + 1) v = _
  unfold hiT
  rw [if_pos (by omega)]
/-- What stands behind a row's own steps. -/
def Zw (p low high now n N : Nat) (PB : Pb) (fv bv tv : Value) (line : Nat → Nat) (i : Nat) (lo hi : Nat → Option V) : PtL := ⟨p, low, high, now, n, N, bv, fv, tv, bv, fv, tv, i, i, n, i, line, lo, hi, PB.T⟩
theorem hi_next {rows : List Rl} {gl : List (Nat × Rat)} {n i : Nat} (h : i < rows.length) : hiT (Pb0 (lns rows) n (cof gl)) (i + 1) = fun j => if j = n + i then some ⟨(rq (alR rows gl) i).bd, if (rq (alR rows gl) i).rel = 2 then -1 else 0⟩ else hiT (Pb0 (lns rows) n (cof gl)) i j := by
 have e := hiT_next (Pb0 (lns rows) n (cof gl)) i
 have en : (Pb0 (lns rows) n (cof gl)).n = n := rfl
 rw [en, high_row h] at e
 rw [← e, show rq (alR rows gl) i = rq rows i from by unfold alR; exact rq_append h]
theorem lo_next {rows : List Rl} {gl : List (Nat × Rat)} {n i : Nat} (h : i < rows.length) (hr : (rq (alR rows gl) i).rel ≠ 1 ∧ (rq (alR rows gl) i).rel ≠ 2) : loT (Pb0 (lns rows) n (cof gl)) (i + 1) = fun j => if j = n + i then some ⟨(rq (alR rows gl) i).bd, 0⟩ else loT (Pb0 (lns rows) n (cof gl)) i j := by
 have e := loT_next (Pb0 (lns rows) n (cof gl)) i
 have en : (Pb0 (lns rows) n (cof gl)).n = n := rfl
 have er : rq (alR rows gl) i = rq rows i := by unfold alR; exact rq_append h
 rw [er] at hr ⊢
 rw [en, low_row h, if_neg (fun q => q.elim hr.1 hr.2)] at e
 exact e.symm
theorem lo_stay {rows : List Rl} {gl : List (Nat × Rat)} {n i : Nat} (h : i < rows.length) (hr : (rq (alR rows gl) i).rel = 1 ∨ (rq (alR rows gl) i).rel = 2) : loT (Pb0 (lns rows) n (cof gl)) (i + 1) = loT (Pb0 (lns rows) n (cof gl)) i := by
 have er : rq (alR rows gl) i = rq rows i := by unfold alR; exact rq_append h
 rw [er] at hr
 refine loT_same ?_
 show (Pb0 (lns rows) n (cof gl)).low (n + i) = none
 rw [low_row h, if_pos hr]
theorem lo_last {rows : List Rl} {gl : List (Nat × Rat)} {n i : Nat} (h : rows.length ≤ i) : loT (Pb0 (lns rows) n (cof gl)) (i + 1) = loT (Pb0 (lns rows) n (cof gl)) i :=
 loT_same (low_end (Or.inr (by show n + rows.length ≤ n + i; omega)))
theorem hi_last {rows : List Rl} {gl : List (Nat × Rat)} {n i : Nat} (h : rows.length ≤ i) : hiT (Pb0 (lns rows) n (cof gl)) (i + 1) = hiT (Pb0 (lns rows) n (cof gl)) i :=
 hiT_same (high_end (Or.inr (by show n + rows.length ≤ n + i; omega)))
theorem zw_zi {n0 p low high now n N : Nat} {PB : Pb} {fv bv tv : Value} {line : Nat → Nat} {i : Nat} {lo hi : Nat → Option V} {W : World} (h : Pt n0 W (Zw p low high now n N PB fv bv tv line (i + 1) lo hi)) (e1 : loT PB (i + 1) = lo) (e2 : hiT PB (i + 1) = hi) : Pt n0 W (Zi p low high now n N PB fv bv tv line (i + 1)) := by
 unfold Zi
 rw [e1, e2]
 exact h
theorem ends_1 {rows : List Rl} {gl : List (Nat × Rat)} {n m i b : Nat} {PB : Pb} (hPB : Pb0 (lns rows) n (cof gl) = PB) (hm : rows.length = m) (h : i < m) (hb : b = n + i) (hr : (rq (alR rows gl) i).rel = 1) :
  loT PB (i + 1) = loT PB i ∧ hiT PB (i + 1) = fun j => if j = b then some ⟨(rq (alR rows gl) i).bd, 0⟩ else hiT PB i j := by
 subst hPB hm hb
 have e := hi_next (gl := gl) (n := n) h
 rw [hr] at e
 exact ⟨lo_stay h (Or.inl hr), e⟩
theorem ends_2 {rows : List Rl} {gl : List (Nat × Rat)} {n m i b : Nat} {PB : Pb} (hPB : Pb0 (lns rows) n (cof gl) = PB) (hm : rows.length = m) (h : i < m) (hb : b = n + i) (hr : (rq (alR rows gl) i).rel = 2) :
  loT PB (i + 1) = loT PB i ∧ hiT PB (i + 1) = fun j => if j = b then some ⟨(rq (alR rows gl) i).bd, -1⟩ else hiT PB i j := by
 subst hPB hm hb
 have e := hi_next (gl := gl) (n := n) h
 rw [hr] at e
 exact ⟨lo_stay h (Or.inr hr), e⟩
theorem ends_3 {rows : List Rl} {gl : List (Nat × Rat)} {n m i b : Nat} {PB : Pb} (hPB : Pb0 (lns rows) n (cof gl) = PB) (hm : rows.length = m) (h : i < m) (hb : b = n + i) (h1 : (rq (alR rows gl) i).rel ≠ 1) (h2 : (rq (alR rows gl) i).rel ≠ 2) :
  (loT PB (i + 1) = fun j => if j = b then some ⟨(rq (alR rows gl) i).bd, 0⟩ else loT PB i j) ∧ hiT PB (i + 1) = fun j => if j = b then some ⟨(rq (alR rows gl) i).bd, 0⟩ else hiT PB i j := by
 subst hPB hm hb
 have e := hi_next (gl := gl) (n := n) h
 rw [if_neg h2] at e
 exact ⟨lo_next h ⟨h1, h2⟩, e⟩
theorem ends_l {rows : List Rl} {gl : List (Nat × Rat)} {n m i : Nat} {PB : Pb} (hPB : Pb0 (lns rows) n (cof gl) = PB) (hm : rows.length = m) (h : m ≤ i) : loT PB (i + 1) = loT PB i ∧ hiT PB (i + 1) = hiT PB i := by
 subst hPB hm
 exact ⟨lo_last h, hi_last h⟩
end Go.Proofs.Ytijdglogadnbcaa
