/- Rows of small numbers give problems of small numbers. No program. -/
import Derived.Test.YtijdglogadnbcaaGreatZ26
import Derived.Test.YtijdglogadnbcaaGreatZ30
import Derived.Test.YtijdglogadnbcaaGreatZ42
import Derived.Test.YtijdglogadnbcaaGreatZ28
import Derived.Test.YtijdglogadnbcaaGreatZ20
import Derived.Deep.RegionHeld3
set_option linter.unusedVariables false
set_option linter.unusedSimpArgs false
set_option maxRecDepth 100000
set_option maxHeartbeats 40000000
namespace Go.Proofs.YtijdglogadnbcaaGreat
open Go.RowKit Nt Bl
/-- A number of at most 32 and 8 binary digits. -/
def SmQ (q : Rat) : Prop := q.num.natAbs < 4294967296 ∧ q.den < 256
structure GoodC (n : Nat) (l : List (Nat × Rat)) : Prop where
 len : l.length ≤ 8
 at_ : ∀ i, i < l.length → (cq l i).1 < n ∧ SmQ (cq l i).2
structure Rl.Good (n : Nat) (R : Rl) : Prop where
 cs : GoodC n R.cs
 bd : SmQ R.bd
def prodD (l : List (Nat × Rat)) : Nat → Nat
 | 0 => 1
 | i + 1 => prodD l i * (cq l i).2.den
theorem prodD_pos (l : List (Nat × Rat)) : ∀ i, 0 < prodD l i
 | 0 => Nat.zero_lt_one
 | i + 1 => Nat.mul_pos (prodD_pos l i) (Rat.den_pos _)
theorem prodD_dvd {l : List (Nat × Rat)} {k : Nat} : ∀ {i : Nat}, k < i → (cq l k).2.den ∣ prodD l i
 | 0, h => absurd h (Nat.not_lt_zero _)
 | i + 1, h => by
  by_cases e : k = i
  ·subst e; exact Nat.dvd_mul_left _ _
  ·exact Nat.dvd_trans (prodD_dvd (i := i) (by omega)) (Nat.dvd_mul_right _ _)
theorem prodD_le {l : List (Nat × Rat)} : ∀ {i : Nat}, (∀ k, k < i → (cq l k).2.den < 256) → prodD l i ≤ 256 ^ i
 | 0, _ => Nat.le_refl _
 | i + 1, h => by
  have a := prodD_le (i := i) fun k hk => h k (by omega)
  have b := h i (by omega)
  show prodD l i * _ ≤ 256 ^ i * 256
  exact Nat.mul_le_mul a (by omega)
theorem cofT_cases (l : List (Nat × Rat)) (j : Nat) : ∀ i, cofT l i j = 0 ∨ ∃ k, k < i ∧ (cq l k).1 = j ∧ cofT l i j = (cq l k).2
 | 0 => Or.inl rfl
 | i + 1 => by
  by_cases e : j = (cq l i).1
  ·exact Or.inr ⟨i, Nat.lt_succ_self i, e.symm, if_pos e⟩
  ·rcases cofT_cases l j i with h | ⟨k, h1, h2, h3⟩
   ·exact Or.inl (by show (if _ then _ else _) = _; rw [if_neg e]; exact h)
   ·exact Or.inr ⟨k, by omega, h2, by show (if _ then _ else _) = _; rw [if_neg e]; exact h3⟩
theorem whole_of {q : Rat} {D : Nat} (h : q.den ∣ D) (hs : SmQ q) : ∃ a : Int, (D : Rat) * q = (a : Rat) ∧ a.natAbs ≤ D * 4294967296 := by
 obtain ⟨c, rfl⟩ := h
 refine ⟨(c : Int) * q.num, ?_, ?_⟩
 ·have d0 : (q.den : Rat) ≠ 0 := by
   have := q.den_nz
   exact_mod_cast this
  have e : q * (q.den : Rat) = (q.num : Rat) := by
   have h := Rat.num_divInt_den q
   rw [Rat.divInt_eq_div] at h
   have k := Rat.div_mul_cancel (a := (q.num : Rat)) d0
   rw [show (((q.den : Nat) : Int) : Rat) = (q.den : Rat) from rfl] at h
   rwa [h] at k
  rw [cast_mul, ← e, Rat.natCast_mul]
  show _ = (c : Rat) * _
  grind
 ·rw [Int.natAbs_mul, Int.natAbs_natCast]
  have := hs.1
  have d1 : 1 ≤ q.den := Rat.den_pos q
  calc c * q.num.natAbs ≤ (q.den * c) * q.num.natAbs := Nat.mul_le_mul_right _ (Nat.le_mul_of_pos_left c d1)
   _ ≤ q.den * c * 4294967296 := Nat.mul_le_mul_left _ (by omega)
theorem nrm_le {B : Nat} {a : Nat → Int} : ∀ {n : Nat}, (∀ j, j < n → (a j).natAbs ≤ B) → nrm n a ≤ n * B
 | 0, _ => Nat.zero_le _
 | n + 1, h => by
  have a1 := nrm_le (n := n) fun j hj => h j (by omega)
  have a2 := h n (by omega)
  show nrm n a + (a n).natAbs ≤ (n + 1) * B
  rw [Nat.add_mul, Nat.one_mul]
  omega
/-- The bound of all numbers in the rows. -/
def bigR : Nat := 2 ^ 112
theorem good_small {n : Nat} {l : List (Nat × Rat)} {bd : Rat} (hl : GoodC n l) (hb : SmQ bd) (hn : n ≤ 60) : Ln.Small (cof l) bd n bigR := by
 have dp := prodD_pos l l.length
 have dl : prodD l l.length ≤ 256 ^ 8 := Nat.le_trans (prodD_le fun k hk => (hl.at_ k hk).2.2) (Nat.pow_le_pow_right (by omega) hl.len)
 obtain ⟨D, hD⟩ : ∃ D, prodD l l.length * bd.den = D := ⟨_, rfl⟩
 have D1 : 1 ≤ D := by rw [← hD]; exact Nat.mul_pos dp (Rat.den_pos _)
 have D2 : D ≤ 256 ^ 9 := by
  rw [← hD]
  calc prodD l l.length * bd.den ≤ 256 ^ 8 * 256 := Nat.mul_le_mul dl (Nat.le_of_lt hb.2)
   _ = 256 ^ 9 := by decide
 have each : ∀ j, ∃ a : Int, (D : Rat) * cof l j = (a : Rat) ∧ a.natAbs ≤ D * 4294967296 := fun j => by
  rcases cofT_cases l j l.length with h | ⟨k, h1, h2, h3⟩
  ·refine ⟨0, ?_, by simp⟩
   show (D : Rat) * cofT l l.length j = _
   rw [h]; simp
  ·have := whole_of (D := D) (Nat.dvd_trans (prodD_dvd h1) (by rw [← hD]; exact Nat.dvd_mul_right _ _)) (hl.at_ k h1).2
   obtain ⟨a, e1, e2⟩ := this
   exact ⟨a, by show (D : Rat) * cofT l l.length j = _; rw [h3]; exact e1, e2⟩
 obtain ⟨a, ha⟩ := Classical.axiomOfChoice each
 obtain ⟨b, e1, e2⟩ := whole_of (D := D) (q := bd) (by rw [← hD]; exact Nat.dvd_mul_left _ _) hb
 have N := nrm_le (n := n) (a := a) fun j _ => (ha j).2
 have M : D * 4294967296 ≤ 256 ^ 9 * 4294967296 := Nat.mul_le_mul_right _ D2
 have N2 : n * (D * 4294967296) ≤ 60 * (256 ^ 9 * 4294967296) := Nat.mul_le_mul hn M
 have C : 60 * (256 ^ 9 * 4294967296) + 256 ^ 9 * 4294967296 + 256 ^ 9 ≤ bigR := by decide
 obtain ⟨X, hX⟩ : ∃ X, 256 ^ 9 * 4294967296 = X := ⟨_, rfl⟩
 obtain ⟨Y, hY⟩ : ∃ Y, 256 ^ 9 = Y := ⟨_, rfl⟩
 obtain ⟨Z, hZ⟩ : ∃ Z, bigR = Z := ⟨_, rfl⟩
 rw [hX] at M N2 C
 rw [hY] at C D2
 rw [hZ] at C ⊢
 exact ⟨D, a, b, D1, by omega, fun j _ => (ha j).1, e1, by omega, by omega⟩
theorem smq_zero : SmQ 0 := by unfold SmQ; decide
theorem bigK {n K : Nat} (hn : n ≤ 60) (hK : 300 ≤ K) : bigR * (2 * bigR) ^ n * bigR < 4294967296 ^ K := by
 have e : bigR * (2 * bigR) ^ n * bigR = 2 ^ (112 + 113 * n + 112) := by
  rw [show 2 * bigR = 2 ^ 113 from by unfold bigR; decide, ← Nat.pow_mul, show bigR = 2 ^ 112 from rfl, ← Nat.pow_add, ← Nat.pow_add]
 have f : 4294967296 ^ K = 2 ^ (32 * K) := by rw [Nat.pow_mul]
 rw [e, f]
 exact Nat.pow_lt_pow_right (by omega) (by omega)
theorem rows_fm {rows : List Rl} {n : Nat} {gl : List (Nat × Rat)} (hr : ∀ i, i < rows.length → (rq rows i).Good n) (hg : GoodC n gl) (hn : n ≤ 60) : ∃ D a, Fm (Pb0 (lns rows) n (cof gl)) bigR D a := by
 refine Pb0.fm (fun i hi => ?_) (good_small hg smq_zero hn)
 have hi' : i < rows.length := by rw [← lns_len]; exact hi
 have e : (lns rows)[i] = (rq rows i).ln := by
  have := lns_get hi'
  rw [List.getElem?_eq_getElem hi] at this
  exact Option.some.inj this
 rw [e]
 exact good_small (hr i hi').cs (hr i hi').bd hn
theorem Bl.Gre.endsz {K : Nat} {is : Bool} : ∀ {k : Nat} {P Q : Pb}, Gre K k P Q is → PSz Q K
 | 0, P, Q, h => by
  obtain ⟨h, rfl, _⟩ := h
  exact h
 | k + 1, P, Q, h => by
  obtain ⟨_, r, c, P2, _, _, _, h⟩ := h
  exact Bl.Gre.endsz h
section
variable {rows : List Rl} {n : Nat} {gl : List (Nat × Rat)}
theorem solve_feas (hr : ∀ i, i < rows.length → (rq rows i).Good n) (hg : GoodC n gl) (hn : n ≤ 60) :
  ∃ k Q x, Fes 1048576 k (Pb0 (lns rows) n (cof gl)) Q x ∧
   ((x = none ∧ Top (Pb0 (lns rows) n (cof gl)) (lns rows).length Q ∧ ∃ x, Sol (lns rows) n x) ∨
    (x ≠ none ∧ (∀ r up, x = some (r, up) → Q.brk = some (r, up) ∧ Q.hlp r up = none) ∧ ¬ ∃ x, Sol (lns rows) n x)) := by
 obtain ⟨D, a, F⟩ := rows_fm hr hg hn
 obtain ⟨k, Q, x, h1, h2, h3, h4⟩ := fes_total (Pb0.mid (lns rows) n (cof gl)) F (bigK (K := 1048576) hn (by omega))
 refine ⟨k, Q, x, h1, ?_⟩
 cases x with
 | none =>
  have ha := h3 rfl
  refine Or.inl ⟨rfl, h2.top ?_, feas_yes h2 ha⟩
  rw [h2.kin.low, h2.kin.high, h2.kin.n, h2.kin.m]
  exact ha
 | some y =>
  obtain ⟨r, up⟩ := y
  exact Or.inr ⟨by simp, fun r' up' e => by obtain ⟨a1, a2, _⟩ := h4 r' up' e; exact ⟨a1, a2⟩, feas_no fun y ty hy => (h4 r up rfl).2.2 y ty hy⟩
theorem solve_sup {Q : Pb} (hr : ∀ i, i < rows.length → (rq rows i).Good n) (hg : GoodC n gl) (hn : n ≤ 60) (h : Top (Pb0 (lns rows) n (cof gl)) (lns rows).length Q) :
  ∃ k Q2 is, Gre 1048576 k Q Q2 is ∧ Sz (Q2.now (n + rows.length)).m 1048576 ∧ Sz (Q2.now (n + rows.length)).s 1048576 ∧
   IsSup (Sol (lns rows) n) (val n (cof gl)) (if is then some ((Q2.now (n + rows.length)).m, decide ((Q2.now (n + rows.length)).s = 0)) else none) := by
 obtain ⟨D, a, F⟩ := rows_fm hr hg hn
 obtain ⟨k, Q2, is, h1, h2, h3, h4⟩ := gre_total h F (bigK (K := 1048576) hn (by omega))
 have sz := h1.endsz.now (n + rows.length) (by
  rw [h2.kin.n, h2.kin.m]
  show n + rows.length < n + ((lns rows).length + 1)
  rw [lns_len]; omega)
 refine ⟨k, Q2, is, h1, sz.1, sz.2, ?_⟩
 cases is with
 | true =>
  have := sup_best h2 (h3 rfl)
  rw [show n + ((lns rows).length + 1) - 1 = n + rows.length from by rw [lns_len]; omega] at this
  exact this
 | false =>
  obtain ⟨c, e1, e2⟩ := h4 rfl
  exact sup_endless h2 e1 e2
end
/-- Rows and a goal as lp wants them. -/
structure LpIn (w : World) (rows : List Rl) (ra : Option Addr) (n m : Nat) (gl : List (Nat × Rat)) (ga : Option Addr) (gc : Nat) : Prop where
 hr : RlsAt w rows ra
 hm : rows.length = m
 hg : QfAt w gl ga
 hgc : gl.length ≤ gc ∧ gc ≤ 9223372036854775807
 hn : n ≤ 60
 hm60 : m ≤ 60
 good : ∀ i, i < rows.length → (rq rows i).Good n
 goal : GoodC n gl
theorem LpIn.new {w : World} {rows : List Rl} {ra : Option Addr} {n m : Nat} {gl : List (Nat × Rat)} {ga : Option Addr} {gc : Nat} (h : LpIn w rows ra n m gl ga gc) : NewIn w rows ra n m gl ga gc := by
 refine ⟨h.hr, h.hm, h.hg, h.hgc, h.hn, h.hm60, fun i hi j hj => ?_⟩
 by_cases e : i < rows.length
 ·have q : rq (alR rows gl) i = rq rows i := rq_append e
  rw [q] at hj ⊢
  exact ((h.good i e).cs.at_ j hj).1
 ·obtain rfl : i = rows.length := by have := h.hm; omega
  have q : rq (alR rows gl) rows.length = ⟨gl, 0, 0⟩ := rq_last
  rw [q] at hj ⊢
  exact (h.goal.at_ j hj).1
theorem GoodC.nil (n : Nat) : GoodC n [] := ⟨Nat.zero_le _, fun i hi => absurd hi (Nat.not_lt_zero _)⟩
/-- lp.Feasible where there is a solution. -/
theorem lpf_yes {w : World} {rows : List Rl} {ra : Option Addr} {rc n m : Nat} (h : LpIn w rows ra n m [] none 0) (hx : ∃ x, Sol (lns rows) n x) :
  Calls Tryz.prog 61 #[.slice ra m rc, .int .i64 (n : Int)] w fun e w' => e = .returned (.tuple #[.slice none 0 0, .bool true]) ∧ Below w.heap.size w w' := by
 obtain ⟨k, Q, x, hF, h2 | h2⟩ := solve_feas h.good (GoodC.nil n) h.hn
 ·obtain ⟨rfl, _⟩ := h2
  refine (lpf_any (R := fun _ _ => True) h.new hF (fun _ _ _ _ e => by simp at e)).mono ?_
  rintro e w' ⟨v, rfl, h1, _, hb⟩
  exact ⟨by rw [h1 rfl]; rfl, hb⟩
 ·exact absurd hx h2.2.2
/-- lp.Greatest where there is a solution. -/
theorem lps_any {w : World} {rows : List Rl} {ra : Option Addr} {rc n m : Nat} {gl : List (Nat × Rat)} {ga : Option Addr} {gc : Nat} (h : LpIn w rows ra n m gl ga gc) (hx : ∃ x, Sol (lns rows) n x) :
  Calls Tryz.prog 77 #[.slice ra m rc, .int .i64 (n : Int), .slice ga gl.length gc] w fun e w' => Below w.heap.size w w' ∧ ∃ u, IsSup (Sol (lns rows) n) (val n (cof gl)) u ∧
   ((u = none ∧ e = .returned (.tuple #[.agg #[.bool false, .slice none 0 0, .slice none 0 0], .bool false, .bool false, .slice none 0 0])) ∨
    (∃ (a : Rat) (b : Bool) (M : Nw) (v : Value), u = some (a, b) ∧ e = .returned (.tuple #[.agg #[.bool M.s, .slice M.a M.n M.c, .slice M.b M.m M.d], .bool true, .bool b, v]) ∧ RA w' a M ∧ Sz a 1048576)) := by
 obtain ⟨k, Q, x, hF, h2 | h2⟩ := solve_feas h.good h.goal h.hn
 ·obtain ⟨rfl, hT, _⟩ := h2
  obtain ⟨k2, Q2, is, hG, s1, s2, hS⟩ := solve_sup h.good h.goal h.hn hT
  rw [h.hm] at s1 s2 hS
  refine (lpg_any h.new hF hG (fun _ => s2)).mono ?_
  rintro e w' ⟨hb, ⟨rfl, rfl⟩ | ⟨rfl, M, v, r, rfl, hM, _⟩⟩
  ·exact ⟨hb, none, hS, Or.inl ⟨rfl, rfl⟩⟩
  ·exact ⟨hb, _, hS, Or.inr ⟨_, _, M, v, rfl, rfl, hM, s1⟩⟩
 ·exact absurd hx h2.2.2
theorem info72 : (Tryz.prog.info? 72).map (fun i => (i.zero, i.size, i.bytes)) = some (some (.agg #[.int .i64 0, .bool false, .slice none 0 0, .slice none 0 0]), 4, 64) := by kernel_rfl
/-- The cells of a coefficient. -/
def cf4 (x : Int) (N : Nw) : List Value := [.int .i64 x, .bool N.s, .slice N.a N.n N.c, .slice N.b N.m N.d]
structure CfR (w : World) (g n k : Nat) (f : Nat → Int × Rat) : Prop where
 blk : Blk w g 72
 at_ : ∀ i, i < n → ∃ (x : Int) (N : Nw), (∀ j, j < 4 → w.cell? ⟨g, i * 4 + j, none⟩ = (cf4 x N)[j]?) ∧ (i < k → x = (f i).1 ∧ RA w (f i).2 N)
theorem CfR.keep {w w' : World} {g n k : Nat} {f : Nat → Int × Rat} (h : CfR w g n k f) (e : w'.heap[g]? = w.heap[g]?) (hl : Limb w w') : CfR w' g n k f :=
 ⟨h.blk.keep e, fun i hi => by
  obtain ⟨x, N, c, r⟩ := h.at_ i hi
  exact ⟨x, N, fun j hj => (cells_same e _).trans (c j hj), fun q => ⟨(r q).1, (r q).2.limb hl⟩⟩⟩
theorem CfR.below {w w' : World} {g n k : Nat} {f : Nat → Int × Rat} (h : CfR w g n k f) (hb : Below w.heap.size w w') : CfR w' g n k f := h.keep (hb.block g h.blk.lt) (Limb.of_below hb)
theorem CfR.made {w1 : World} {b g n : Nat} {f : Nat → Int × Rat} (h : w1.ownsRow b 72 4 (.slice (some ⟨g, 0, none⟩) n n) n (madeCells (Value.agg #[.int .i64 0, .bool false, .slice none 0 0, .slice none 0 0]).cells (n * 4)).toList) : CfR w1 g n 0 f ∧ b ≤ g := by
 rcases h.2 with ⟨hv, _⟩ | ⟨g', cap, cur, hv, hb, hgg, _, _, hcs, ht⟩
 ·simp at hv
 ·simp only [Value.slice.injEq, Option.some.injEq, Addr.mk.injEq] at hv
  obtain ⟨⟨rfl, _⟩, _, rfl⟩ := hv
  refine ⟨⟨⟨_, hgg⟩, fun v hvn => ⟨0, Nw.zero, fun j hj => ?_, fun q => absurd q (Nat.not_lt_zero _)⟩⟩, hb⟩
  rw [cell_of_row w1 g _ _ _ _ hgg]
  have e := made_get (z := (Value.agg #[.int .i64 0, .bool false, .slice none 0 0, .slice none 0 0]).cells) (k := n) (sz := 4) (v := v) (j := j) rfl hj hvn
  rw [← ht, List.getElem?_take] at e
  have lt : v * 4 + j < n * 4 := by omega
  rw [if_pos lt] at e
  rw [← Array.getElem?_toList, e]
  rcases j with _ | _ | _ | _ | j <;> first | rfl | omega
theorem CfR.wr {w : World} {g n k i : Nat} {f : Nat → Int × Rat} (h : CfR w g n k f) (hi : i < n) (x : Int) (M : Nw) : Wr w (w.setCells g (i * 4) (cf4 x M)) g (i * 4) (cf4 x M) := by
 obtain ⟨y, N, c, _⟩ := h.at_ i hi
 refine wr_cells w g _ _ fun j hj => ?_
 have hj : j < 4 := by simpa [cf4] using hj
 rw [c j hj, List.getElem?_eq_getElem (by simpa [cf4] using hj)]; rfl
theorem CfR.limb {w w' : World} {g n k i : Nat} {f : Nat → Int × Rat} {x : Int} {M : Nw} (h : CfR w g n k f) (hi : i < n) (hw : Wr w w' g (i * 4) (cf4 x M)) : Limb w w' :=
 hw.limb fun j u hj => by
  obtain ⟨y, N, c, _⟩ := h.at_ i hi
  have hj : j < 4 := by simpa [cf4] using hj
  rw [c j hj]
  rcases j with _ | _ | _ | _ | j <;> simp [cf4]
theorem CfR.set {w w' : World} {g n k : Nat} {f : Nat → Int × Rat} {M : Nw} (h : CfR w g n k f) (hk : k < n) (hw : Wr w w' g (k * 4) (cf4 (f k).1 M)) (hm : RA w (f k).2 M) : CfR w' g n (k + 1) f := by
 have hl := h.limb hk hw
 refine ⟨hw.blk _ _ h.blk, fun i hi => ?_⟩
 by_cases e : i = k
 ·subst e
  exact ⟨_, M, fun j hj => hw.new j (by simpa [cf4] using hj), fun _ => ⟨rfl, hm.limb hl⟩⟩
 ·obtain ⟨y, N, c, r⟩ := h.at_ i hi
  exact ⟨y, N, fun j hj => (hw.rest _ (by simp [cf4]; omega)).trans (c j hj), fun q => ⟨(r (by omega)).1, (r (by omega)).2.limb hl⟩⟩
/-- Filled, as coefficients. -/
theorem CfR.full {w : World} {g n : Nat} {f : Nat → Int × Rat} {l : List (Nat × Rat)} (h : CfR w g n n f) (hl : l.length = n) (hf : ∀ i, i < n → f i = (((cq l i).1 : Int), (cq l i).2)) : QfAt w l (some ⟨g, 0, none⟩) := by
 intro _
 refine ⟨g, 0, rfl, fun i hi => ?_⟩
 obtain ⟨x, N, c, r⟩ := h.at_ i (by omega)
 obtain ⟨r1, r2⟩ := r (by omega)
 rw [hf i (by omega)] at r1 r2
 have c0 := c 0 (by omega); have c1 := c 1 (by omega); have c2 := c 2 (by omega); have c3 := c 3 (by omega)
 refine ⟨N, ?_, ?_, ?_, ?_, r2⟩
 ·rw [Nat.zero_add]; rw [Nat.add_zero] at c0; rw [c0, r1]; rfl
 ·rw [Nat.zero_add]; exact c1
 ·rw [Nat.zero_add]; exact c2
 ·rw [Nat.zero_add]; exact c3
end Go.Proofs.YtijdglogadnbcaaGreat
namespace Go.Proofs.YtijdglogadnbcaaGreat
open Go.RowKit
/-- Digits in a block that is known whole. -/
def HB (w : World) (g : Nat) (l : List Nat) : Prop := w.heap[g]? = some (.cells (i64s l).toArray 3 (0, 0))
theorem HB.cell {w : World} {g : Nat} {l : List Nat} (h : HB w g l) {i : Nat} (hi : i < l.length) : w.cell? ⟨g, i, none⟩ = some (.int .i64 ((l.getD i 0 : Nat) : Int)) := by
 rw [cell_of_row w g i _ _ _ h, List.getElem?_toArray]; exact i64s_get l hi
theorem HB.free {w : World} {g : Nat} {l : List Nat} (h : HB w g l) (i : Nat) : w.frozen? ⟨g, i, none⟩ = false := by
 unfold HB at h; simp [World.frozen?, h]
theorem HB.lt {w : World} {g : Nat} {l : List Nat} (h : HB w g l) : g < w.heap.size := (Array.getElem?_eq_some_iff.1 h).1
theorem HB.set {w : World} {g : Nat} {l : List Nat} (h : HB w g l) (i x : Nat) : HB (w.setCell ⟨g, i, none⟩ (.int .i64 ((x : Nat) : Int))) g (l.set i x) := by
 unfold HB
 rw [heap_setCell_same w g i _ _ _ h]
 simp [i64s, List.map_set]
theorem HB.at_ {w : World} {g : Nat} {l : List Nat} (h : HB w g l) : IAt w l (some ⟨g, 0, none⟩) := fun _ => ⟨g, 0, rfl, fun i hi => by rw [Nat.zero_add]; exact h.cell hi⟩
theorem hb_made {w1 : World} {g n : Nat} (h : w1.ownsRow 0 3 1 (.slice (some ⟨g, 0, none⟩) n n) n (madeCells (Value.int .i64 0).cells (n * 1)).toList) : HB w1 g (List.replicate n 0) := by
 have e : (madeCells (Value.int .i64 0).cells (n * 1)).toList = i64s (List.replicate n 0) := by
  simp only [madeCells, i64s, Value.cells, Nat.mul_one]
  refine List.ext_getElem (by simp) fun i h1 h2 => ?_
  simp [Nat.mod_one]
 rw [e] at h
 rcases h.2 with ⟨q, _⟩ | ⟨g', cap, cur, q, _, hg, _, _, hs, ht⟩
 ·simp at q
 ·simp only [Value.slice.injEq, Option.some.injEq, Addr.mk.injEq] at q
  obtain ⟨⟨rfl, _, _⟩, _, rfl⟩ := q
  unfold HB
  rw [hg]
  congr 2
  rw [Nat.mul_one] at ht hs
  rw [← ht, List.take_of_length_le (by simp [hs])]
theorem i64_id (n : Int) (h0 : 0 ≤ n) (h1 : n < 2 ^ 63) : IntKind.i64.wrap n = n := IntWalk.i64_in n (by omega)
theorem half_arith {x y : Nat} (hx : x < 65536) (hy : y < 65536) : bits .or .i64 ((x : Int) / 2) (wrap64 (bits .and .i64 (y : Int) 1 * 32768)) = ((x / 2 + y % 2 * 32768 : Nat) : Int) := by
 have e1 := (bits_nat .i64 63 (by decide) i64_id y 1 (by omega) (by decide)).1
 rw [Nat.and_one_is_mod] at e1
 rw [show (1 : Int) = ((1 : Nat) : Int) from rfl, e1]
 have hm := Nat.mod_lt y (show 0 < 2 by omega)
 have e2 : wrap64 (((y % 2 : Nat) : Int) * 32768) = ((y % 2 : Nat) : Int) * 32768 := by simp only [wrap64]; omega
 rw [e2, show (x : Int) / 2 = ((x / 2 : Nat) : Int) from rfl, show ((y % 2 : Nat) : Int) * 32768 = ((y % 2 * 32768 : Nat) : Int) from by omega]
 rw [(bits_nat .i64 63 (by decide) i64_id (x / 2) (y % 2 * 32768) (by omega) (by omega)).2]
 congr 1
 have := Nt.or_low (s := 15) (x := x / 2) (m := y % 2) (by omega)
 rw [show y % 2 * 32768 = 2 ^ 15 * (y % 2) from by omega, this]
def HfL (w : World) (g : Nat) (l : List Nat) (n : Nat) (i : Value) (wr : World) : Prop :=
 ∃ k : Nat, k ≤ n ∧ i = .int .i64 (k : Int) ∧ HB wr g ((Nh.hf l).take k ++ (List.replicate n 0).drop k) ∧ Below w.heap.size w wr
theorem half_any {w : World} {l : List Nat} {a : Option Addr} {n c : Nat} (h : HAt w l a n c) (hsz : n ≤ 1099511627776) : Calls Tryz.prog 166 #[.slice a n c] w (HPost w (Nh.vl l / 2)) := by
 have H := Lib.hid h
 have hn := Lib.hid h.len
 have hcc := h.cap; have hle := h.le
 clear h
 obtain ⟨i0, hi0, hz0, hz1, hz2⟩ := info_parts info3
 go_enter Tryz.func166, Tryz.ntmps166
 go_wp2_with (at_make; refine wpList_make_full _ rfl _ _ 76 rfl 0 3 i0 (.int .i64 0) 1 Tryz.underlying76 hi0 hz0 hz1 .i64 .i64 _ _ n rfl rfl (by omega) (by omega) (by rw [hz2]; omega) (by unfold maxLen; omega) (Nat.zero_le _) ?_; intro w1 hown1 hg1; have U1 := Lib.hid (hb_made hown1); have B1 := Lib.hid (below_grown hg1); clear hown1 hg1)
 go_loopw [10] (fun i wr => HfL w w.heap.size l n i wr) (fun i _ => n - (intOf i).toNat)
 case atStart => exact ⟨0, Nat.zero_le _, rfl, U1.out, B1.out⟩
 case round =>
  obtain ⟨k, hk, rfl, hU, hB⟩ := hrel
  have U := Lib.hid hU; have BR := Lib.hid hB
  clear hU hB
  by_cases hlt : k < n
  ·obtain ⟨b, o, rfl, d⟩ := H.out.at_ (by intro e; have := hn.out; rw [e] at this; simp at this; omega)
   have p := cell_later BR.out (Nat.le_refl _) (d k (by rw [hn.out]; exact hlt))
   have bl := lt_of_cell (d k (by rw [hn.out]; exact hlt))
   clear d
   obtain ⟨x, hx⟩ : ∃ x, l.getD k 0 = x := ⟨_, rfl⟩
   obtain ⟨y, hy⟩ : ∃ y, l.getD (k + 1) 0 = y := ⟨_, rfl⟩
   have xb : x < 65536 := by rw [← hx]; exact Nh.lm_getD H.out.lm k
   have yb : y < 65536 := by rw [← hy]; exact Nh.lm_getD H.out.lm (k + 1)
   rw [hx] at p
   have KP : Hid (∀ v, (wr.setCell ⟨w.heap.size, k, none⟩ v).drew.cell? ⟨b, o + k, none⟩ = some (.int .i64 (x : Int))) := fun v => by
    show (wr.setCell ⟨w.heap.size, k, none⟩ v).cell? ⟨b, o + k, none⟩ = _
    rw [World.cell?_setCell_other _ _ _ _ (by intro e; have := congrArg Addr.block e; simp at this; simp at bl; omega)]; exact p
   clear bl
   have DG := hdigit_any (w := wr.drew) ((H.out.below BR.out).below (Below.refl _ _).drew) (k + 1) (by omega)
   rw [hy] at DG
   rw [show ((k + 1 : Nat) : Int) = (k : Int) + 1 from by omega] at DG
   have DG := Lib.hid DG
   have HX := Lib.hid hx; have HY := Lib.hid hy
   clear hx hy
   have SL : Hid (((Nh.hf l).take k).length = k) := by show _ = _; rw [List.length_take, Nh.hf_length, hn.out]; omega
   have p3 := U.out.cell (i := k) (by rw [List.length_append, SL.out, List.length_drop, List.length_replicate]; omega)
   have f3 := U.out.free k
   obtain ⟨u, hu⟩ : ∃ u, ((Nh.hf l).take k ++ (List.replicate n 0).drop k).getD k 0 = u := ⟨_, rfl⟩
   rw [hu] at p3
   clear hu
   have wk : IntKind.i64.wrap ((k : Int) + 1) = (k : Int) + 1 := IntWalk.i64_in _ (by omega)
   have wk0 : (0 : Int) ≤ (k : Int) := by omega
   have wk1 : (k : Int) < (n : Int) := by omega
   go_wp2_with fail
   go_region_held3 (fun W => W.cell? ⟨b, o + k, none⟩ = some (.int .i64 (x : Int)))
    (first
     | exact p
     | exact KP.out _
     | go_keep)
    ((go_at_call 127; refine DG.out.mono ?_; rintro e w2 ⟨rfl, rfl⟩))
   go_wp2_with fail
   go_roundw
   case rel =>
    rw [half_arith xb yb]
    refine ⟨k + 1, by omega, by go_num, ?_, (BR.out.setCell (Nat.le_refl _) _).drew⟩
    have := U.out.set k (x / 2 + y % 2 * 32768)
    rw [set_mid SL.out (by rw [List.length_replicate]; exact hlt)] at this
    rw [htake_last (by rw [Nh.hf_length, hn.out]; exact hlt), Nh.hf_getD l (by rw [hn.out]; exact hlt), HX.out, HY.out]
    exact this
   case measure => simp [intOf]; omega
  ·obtain rfl : n = k := by omega
   have D : Hid ((Nh.hf l).take n ++ (List.replicate n 0).drop n = Nh.hf l) := by show _ = _; rw [List.drop_of_length_le (by simp), List.append_nil, List.take_of_length_le (by rw [Nh.hf_length, hn.out]; exact Nat.le_refl _)]
   have L2 : Hid (HAt wr (Nh.hf l) (some ⟨w.heap.size, 0, none⟩) n n) := ⟨(D.out ▸ U.out).at_, by rw [Nh.hf_length, hn.out], Nat.le_refl _, by omega, Nh.hf_lm H.out.lm⟩
   have V : Hid (Nh.vl (Nh.hf l) = Nh.vl l / 2) := Nh.vl_hf l
   go_wp2_with fail
   refine (htrim_any L2.out).mono ?_
   rintro e w' ⟨rfl, rfl⟩
   go_wp2_with fail
   go_ret
   exact HPost.of_trim L2.out BR.out V.out
def SnL (w : World) (la lb : List Nat) (n : Nat) (v bo i : Value) (wr : World) : Prop :=
 ∃ (k : Nat) (ds : List Nat) (r : Nat), k ≤ n ∧ i = .int .i64 (k : Int) ∧ bo = .int .i64 (r : Int) ∧ Nh.SubI la lb k ds r ∧ wr.ownsRow w.heap.size 3 1 v k (i64s ds) ∧ Below w.heap.size w wr
/-- One number more at the end of a row of the call's own. -/
theorem SnL.next {w wd w1 : World} {la lb ds : List Nat} {n k r d r' : Nat} {v v' : Value} (hk : k < n) (I : Nh.SubI la lb k ds r) (hd : d < 65536) (hr : r' ≤ 1) (he : la.getD k 0 + r' * 65536 = d + lb.getD k 0 + r)
  (B : Below w.heap.size w wd) (O : wd.ownsRow w.heap.size 3 1 v k (i64s ds)) (o : Obj) (O1 : w1.ownsRow w.heap.size 3 1 v' (k + 1) (i64s ds ++ [Value.int .i64 (d : Int)])) (G : (wd.alloc o).grownBy w1 v.ownBlock) :
  SnL w la lb n v' (.int .i64 (r' : Int)) (.int .i64 ((k : Int) + 1)) w1 := by
 refine ⟨k + 1, ds ++ [d], r', by omega, by go_num, rfl, I.step hd hr he, ?_, ?_⟩
 ·have e : i64s (ds ++ [d]) = i64s ds ++ [Value.int .i64 (d : Int)] := by simp [i64s]
  rw [e]; exact O1
 ·have BA : Below wd.heap.size wd (wd.alloc o) := (Below.refl _ _).alloc (Nat.le_refl _) _
  refine ⟨G.os.trans (BA.os.trans B.os), G.tape.trans (BA.tape.trans B.tape), G.output.trans (BA.output.trans B.output), Nat.le_trans B.size (Nat.le_trans BA.size G.size), fun q hq => ?_⟩
  rw [G.block q (Nat.lt_of_lt_of_le hq (Nat.le_trans B.size BA.size)) (fun e => by have := (O.lt q e.symm).1; omega)]
  exact (BA.block q (Nat.lt_of_lt_of_le hq B.size)).trans (B.block q hq)
theorem one_cell_new (w : World) (d : Nat) : ∀ j u, [Value.int .i64 (d : Int)][j]? = some u → (w.alloc (.cells #[.int .i64 (d : Int)] 3)).cell? ((⟨w.heap.size, 0, none⟩ : Addr).add j) = some u := by
 intro j u hu
 rw [Addr.add_lit, Nat.zero_add, cell_of_row _ w.heap.size j _ _ _ (heap_alloc_new w (.cells #[.int .i64 (d : Int)] 3))]
 rcases j with _ | j <;> simp at hu ⊢ <;> exact hu
theorem hsub_any {w : World} {la lb : List Nat} {a b : Option Addr} {n c m d : Nat} (ha : HAt w la a n c) (hb : HAt w lb b m d) (hmn : m ≤ n) (hsz : n ≤ 1099511627776) (hle : Nh.vl lb ≤ Nh.vl la) :
  Calls Tryz.prog 167 #[.slice a n c, .slice b m d] w (HPost w (Nh.vl la - Nh.vl lb)) := by
 have A := Lib.hid ha; have B := Lib.hid hb
 have hn := Lib.hid ha.len
 have h1 := ha.cap; have h2 := ha.le
 have HLE := Lib.hid hle
 clear ha hb hle
 obtain ⟨i0, hi0, hz0, hz1, hz2⟩ := info_parts info3
 go_enter Tryz.func167, Tryz.ntmps167
 go_wp2_with fail
 go_loopw [5, 6, 11] (fun v bo i wr => SnL w la lb n v bo i wr) (fun _ _ i _ => n - (intOf i).toNat)
 case atStart => exact ⟨0, [], 0, Nat.zero_le _, rfl, rfl, Nh.SubI.nil la lb, World.ownsRow_nil _ _ _ _, Below.refl _ _⟩
 case round =>
  obtain ⟨k, ds, r, hk, rfl, rfl, hI, hO, hB⟩ := hrel
  have I := Lib.hid hI; have O := Lib.hid hO; have BR := Lib.hid hB
  have r1 := hI.r1
  clear hI hO hB
  by_cases hlt : k < n
  ·obtain ⟨b1, o1, rfl, dd⟩ := A.out.at_ (by intro e; have := hn.out; rw [e] at this; simp at this; omega)
   have p := cell_later BR.out (Nat.le_refl _) (dd k (by rw [hn.out]; exact hlt))
   clear dd
   obtain ⟨x, hx⟩ : ∃ x, la.getD k 0 = x := ⟨_, rfl⟩
   obtain ⟨y, hy⟩ : ∃ y, lb.getD k 0 = y := ⟨_, rfl⟩
   have xb : x < 65536 := by rw [← hx]; exact Nh.lm_getD A.out.lm k
   have yb : y < 65536 := by rw [← hy]; exact Nh.lm_getD B.out.lm k
   rw [hx] at p
   have DG := hdigit_any (w := wr.drew) ((B.out.below BR.out).below (Below.refl _ _).drew) k (by omega)
   rw [hy] at DG
   have DG := Lib.hid DG
   have HX := Lib.hid hx; have HY := Lib.hid hy
   have OD : Hid ((wr.drew).ownsRow w.heap.size 3 1 u5 k (i64s ds)) := O.out
   have BD : Hid (Below w.heap.size w wr.drew) := BR.out.drew
   have w1' : IntKind.i64.wrap ((x : Int) - (y : Int)) = (x : Int) - (y : Int) := IntWalk.i64_in _ (by omega)
   have w2' : IntKind.i64.wrap ((x : Int) - (y : Int) - (r : Int)) = (x : Int) - (y : Int) - (r : Int) := IntWalk.i64_in _ (by omega)
   have wk0 : (0 : Int) ≤ (k : Int) := by omega
   have wk1 : (k : Int) < (n : Int) := by omega
   clear hx hy O BR
   go_wp2_with fail
   go_region_held3 (fun W => W.cell? ⟨b1, o1 + k, none⟩ = some (.int .i64 (x : Int)))
    (first
     | exact p
     | go_keep)
    ((go_at_call 127; refine DG.out.mono ?_; rintro e w2 ⟨rfl, rfl⟩))
   clear p DG w1' w2'
   generalize wr.drew = wd at *
   by_cases hb : y + r ≤ x
   ·obtain ⟨e, he⟩ : ∃ e, x - y - r = e := ⟨_, rfl⟩
    have ei : (x : Int) - (y : Int) - (r : Int) = (e : Int) := by omega
    have e0 : (0 : Int) ≤ (e : Int) := by omega
    have O2 := Lib.hid (OD.out.alloc (.cells #[.int .i64 (e : Int)] 3))
    have EB : Hid (e < 65536 ∧ x + 0 * 65536 = e + y + r) := ⟨by omega, by omega⟩
    clear he hb
    go_wp2_with (at_builtin; refine wpList_append_own _ rfl _ _ 76 rfl w.heap.size 3 i0 (.int .i64 0) 1 8 Tryz.underlying76 hi0 hz0 hz1 hz2 rfl (by omega) u5 k _ rfl O2.out ⟨wd.heap.size, 0, none⟩ 1 1 [.int .i64 (e : Int)] rfl rfl (one_cell_new wd e) (by intro u hu; simp at hu; rw [hu]; rfl) (by unfold maxLen; omega) (by omega) (by have := BD.out.size; simp; omega) ?_; intro v' w1 hown1 hgrow1 hnil1; have OW := Lib.hid hown1; have GR := Lib.hid hgrow1; clear hown1 hgrow1 hnil1)
    go_roundw
    case rel => exact SnL.next hlt I.out EB.out.1 (r' := 0) (by omega) (by rw [HX.out, HY.out]; exact EB.out.2) BD.out OD.out _ OW.out GR.out
    case measure => simp [intOf]; omega
   ·obtain ⟨e, he⟩ : ∃ e, x + 65536 - y - r = e := ⟨_, rfl⟩
    obtain ⟨f, hf⟩ : ∃ f : Int, (x : Int) - (y : Int) - (r : Int) = f := ⟨_, rfl⟩
    have fneg : f < 0 := by omega
    have ei : f + 65536 = (e : Int) := by omega
    have e0 : (0 : Int) ≤ (e : Int) := by omega
    have O2 := Lib.hid (OD.out.alloc (.cells #[.int .i64 (e : Int)] 3))
    have EB : Hid (e < 65536 ∧ x + 1 * 65536 = e + y + r) := ⟨by omega, by omega⟩
    clear he hb
    go_wp2_with (at_builtin; refine wpList_append_own _ rfl _ _ 76 rfl w.heap.size 3 i0 (.int .i64 0) 1 8 Tryz.underlying76 hi0 hz0 hz1 hz2 rfl (by omega) u5 k _ rfl O2.out ⟨wd.heap.size, 0, none⟩ 1 1 [.int .i64 (e : Int)] rfl rfl (one_cell_new wd e) (by intro u hu; simp at hu; rw [hu]; rfl) (by unfold maxLen; omega) (by omega) (by have := BD.out.size; simp; omega) ?_; intro v' w1 hown1 hgrow1 hnil1; have OW := Lib.hid hown1; have GR := Lib.hid hgrow1; clear hown1 hgrow1 hnil1)
    go_roundw
    case rel => exact SnL.next hlt I.out EB.out.1 (r' := 1) (by omega) (by rw [HX.out, HY.out]; exact EB.out.2) BD.out OD.out _ OW.out GR.out
    case measure => simp [intOf]; omega
  ·obtain rfl : n = k := by omega
   have DN := Lib.hid (I.out.done (by rw [hn.out]; exact Nat.le_refl _) (by rw [B.out.len]; exact hmn) HLE.out)
   obtain ⟨a2, c2, rfl, L2⟩ := own_hat I.out.lm I.out.len O.out
   have L2 := Lib.hid L2
   go_wp2_with fail
   refine (htrim_any L2.out).mono ?_
   rintro e w' ⟨rfl, rfl⟩
   go_wp2_with fail
   go_ret
   exact HPost.of_trim L2.out BR.out DN.out.2
end Go.Proofs.YtijdglogadnbcaaGreat
