/- lp.Feasible and lp.Greatest at rows of small numbers. -/
import Derived.Test.YtijdglogadnbcaaZ39
import Derived.Test.YtijdglogadnbcaaZ40
import Derived.Test.YtijdglogadnbcaaZ27
import Derived.Test.YtijdglogadnbcaaZ19
import Derived.Test.YtijdglogadnbcaaZ26
import Derived.Deep.RegionHeld3
import Derived.Test.YtijdglogadnbcaaZ03
import Derived.Deep.LoopGhost
import Derived.Test.YtijdglogadnbcaaZ09
import Derived.Test.YtijdglogadnbcaaZ12
set_option linter.unusedVariables false
set_option linter.unusedSimpArgs false
set_option maxRecDepth 100000
set_option maxHeartbeats 40000000
namespace Go.Proofs.Ytijdglogadnbcaa
open Go.RowKit Nt Bl
/-- Rows and a goal as lp wants them. -/
structure LpIn (w : World) (rows : List Rl) (ra : Option Addr) (n m : Nat) (gl : List (Nat × Rat)) (ga : Option Addr) (gc : Nat) : Prop where
 hr : RlsAt w rows ra
 hm : rows.length = m
 hg : QfAt w gl ga
 hgc : gl.length ≤ gc ∧ gc ≤ 9223372036854775807
 hn : n ≤ 60
 hm60 : m ≤ 60
 good : ∀ i, i < rows.length → (rq rows i).Good n
 goal : GoodC n gl
theorem LpIn.new {w : World} {rows : List Rl} {ra : Option Addr} {n m : Nat} {gl : List (Nat × Rat)} {ga : Option Addr} {gc : Nat} (h : LpIn w rows ra n m gl ga gc) : NewIn w rows ra n m gl ga gc := by
 refine ⟨h.hr, h.hm, h.hg, h.hgc, h.hn, h.hm60, fun i hi j hj => ?_⟩
 by_cases e : i < rows.length
 ·have q : rq (alR rows gl) i = rq rows i := rq_append e
  rw [q] at hj ⊢
  exact ((h.good i e).cs.at_ j hj).1
 ·obtain rfl : i = rows.length := by have := h.hm; omega
  have q : rq (alR rows gl) rows.length = ⟨gl, 0, 0⟩ := rq_last
  rw [q] at hj ⊢
  exact (h.goal.at_ j hj).1
theorem GoodC.nil (n : Nat) : GoodC n [] := ⟨Nat.zero_le _, fun i hi => absurd hi (Nat.not_lt_zero _)⟩
/-- lp.Feasible where there is a solution. -/
theorem lpf_yes {w : World} {rows : List Rl} {ra : Option Addr} {rc n m : Nat} (h : LpIn w rows ra n m [] none 0) (hx : ∃ x, Sol (lns rows) n x) :
  Calls Try.prog 18 #[.slice ra m rc, .int .i64 (n : Int)] w fun e w' => e = .returned (.tuple #[.slice none 0 0, .bool true]) ∧ Below w.heap.size w w' := by
 obtain ⟨k, Q, x, hF, h2 | h2⟩ := solve_feas h.good (GoodC.nil n) h.hn
 ·obtain ⟨rfl, _⟩ := h2
  refine (lpf_any (R := fun _ _ => True) h.new hF (fun _ _ _ _ e => by simp at e)).mono ?_
  rintro e w' ⟨v, rfl, h1, _, hb⟩
  exact ⟨by rw [h1 rfl]; rfl, hb⟩
 ·exact absurd hx h2.2.2
/-- lp.Greatest where there is a solution. -/
theorem lps_any {w : World} {rows : List Rl} {ra : Option Addr} {rc n m : Nat} {gl : List (Nat × Rat)} {ga : Option Addr} {gc : Nat} (h : LpIn w rows ra n m gl ga gc) (hx : ∃ x, Sol (lns rows) n x) :
  Calls Try.prog 20 #[.slice ra m rc, .int .i64 (n : Int), .slice ga gl.length gc] w fun e w' => Below w.heap.size w w' ∧ ∃ u, IsSup (Sol (lns rows) n) (val n (cof gl)) u ∧
   ((u = none ∧ e = .returned (.tuple #[.agg #[.bool false, .slice none 0 0, .slice none 0 0], .bool false, .bool false, .slice none 0 0])) ∨
    (∃ (a : Rat) (b : Bool) (M : Nw) (v : Value), u = some (a, b) ∧ e = .returned (.tuple #[.agg #[.bool M.s, .slice M.a M.n M.c, .slice M.b M.m M.d], .bool true, .bool b, v]) ∧ RA w' a M ∧ Sz a 1048576)) := by
 obtain ⟨k, Q, x, hF, h2 | h2⟩ := solve_feas h.good h.goal h.hn
 ·obtain ⟨rfl, hT, _⟩ := h2
  obtain ⟨k2, Q2, is, hG, s1, s2, hS⟩ := solve_sup h.good h.goal h.hn hT
  rw [h.hm] at s1 s2 hS
  refine (lpg_any h.new hF hG (fun _ => s2)).mono ?_
  rintro e w' ⟨hb, ⟨rfl, rfl⟩ | ⟨rfl, M, v, r, rfl, hM, _⟩⟩
  ·exact ⟨hb, none, hS, Or.inl ⟨rfl, rfl⟩⟩
  ·exact ⟨hb, _, hS, Or.inr ⟨_, _, M, v, rfl, rfl, hM, s1⟩⟩
 ·exact absurd hx h2.2.2
theorem info72 : (Try.prog.info? 54).map (fun i => (i.zero, i.size, i.bytes)) = some (some (.agg #[.int .i64 0, .bool false, .slice none 0 0, .slice none 0 0]), 4, 64) := by kernel_rfl
/-- The cells of a coefficient. -/
def cf4 (x : Int) (N : Nw) : List Value := [.int .i64 x, .bool N.s, .slice N.a N.n N.c, .slice N.b N.m N.d]
structure CfR (w : World) (g n k : Nat) (f : Nat → Int × Rat) : Prop where
 blk : Blk w g 54
 at_ : ∀ i, i < n → ∃ (x : Int) (N : Nw), (∀ j, j < 4 → w.cell? ⟨g, i * 4 + j, none⟩ = (cf4 x N)[j]?) ∧ (i < k → x = (f i).1 ∧ RA w (f i).2 N)
theorem CfR.keep {w w' : World} {g n k : Nat} {f : Nat → Int × Rat} (h : CfR w g n k f) (e : w'.heap[g]? = w.heap[g]?) (hl : Limb w w') : CfR w' g n k f :=
 ⟨h.blk.keep e, fun i hi => by
  obtain ⟨x, N, c, r⟩ := h.at_ i hi
  exact ⟨x, N, fun j hj => (cells_same e _).trans (c j hj), fun q => ⟨(r q).1, (r q).2.limb hl⟩⟩⟩
theorem CfR.below {w w' : World} {g n k : Nat} {f : Nat → Int × Rat} (h : CfR w g n k f) (hb : Below w.heap.size w w') : CfR w' g n k f := h.keep (hb.block g h.blk.lt) (Limb.of_below hb)
theorem CfR.made {w1 : World} {b g n : Nat} {f : Nat → Int × Rat} (h : w1.ownsRow b 54 4 (.slice (some ⟨g, 0, none⟩) n n) n (madeCells (Value.agg #[.int .i64 0, .bool false, .slice none 0 0, .slice none 0 0]).cells (n * 4)).toList) : CfR w1 g n 0 f ∧ b ≤ g := by
 rcases h.2 with ⟨hv, _⟩ | ⟨g', cap, cur, hv, hb, hgg, _, _, hcs, ht⟩
 ·simp at hv
 ·simp only [Value.slice.injEq, Option.some.injEq, Addr.mk.injEq] at hv
  obtain ⟨⟨rfl, _⟩, _, rfl⟩ := hv
  refine ⟨⟨⟨_, hgg⟩, fun v hvn => ⟨0, Nw.zero, fun j hj => ?_, fun q => absurd q (Nat.not_lt_zero _)⟩⟩, hb⟩
  rw [cell_of_row w1 g _ _ _ _ hgg]
  have e := made_get (z := (Value.agg #[.int .i64 0, .bool false, .slice none 0 0, .slice none 0 0]).cells) (k := n) (sz := 4) (v := v) (j := j) rfl hj hvn
  rw [← ht, List.getElem?_take] at e
  have lt : v * 4 + j < n * 4 := by omega
  rw [if_pos lt] at e
  rw [← Array.getElem?_toList, e]
  rcases j with _ | _ | _ | _ | j <;> first | rfl | omega
theorem CfR.wr {w : World} {g n k i : Nat} {f : Nat → Int × Rat} (h : CfR w g n k f) (hi : i < n) (x : Int) (M : Nw) : Wr w (w.setCells g (i * 4) (cf4 x M)) g (i * 4) (cf4 x M) := by
 obtain ⟨y, N, c, _⟩ := h.at_ i hi
 refine wr_cells w g _ _ fun j hj => ?_
 have hj : j < 4 := by simpa [cf4] using hj
 rw [c j hj, List.getElem?_eq_getElem (by simpa [cf4] using hj)]; rfl
theorem CfR.limb {w w' : World} {g n k i : Nat} {f : Nat → Int × Rat} {x : Int} {M : Nw} (h : CfR w g n k f) (hi : i < n) (hw : Wr w w' g (i * 4) (cf4 x M)) : Limb w w' :=
 hw.limb fun j u hj => by
  obtain ⟨y, N, c, _⟩ := h.at_ i hi
  have hj : j < 4 := by simpa [cf4] using hj
  rw [c j hj]
  rcases j with _ | _ | _ | _ | j <;> simp [cf4]
theorem CfR.set {w w' : World} {g n k : Nat} {f : Nat → Int × Rat} {M : Nw} (h : CfR w g n k f) (hk : k < n) (hw : Wr w w' g (k * 4) (cf4 (f k).1 M)) (hm : RA w (f k).2 M) : CfR w' g n (k + 1) f := by
 have hl := h.limb hk hw
 refine ⟨hw.blk _ _ h.blk, fun i hi => ?_⟩
 by_cases e : i = k
 ·subst e
  exact ⟨_, M, fun j hj => hw.new j (by simpa [cf4] using hj), fun _ => ⟨rfl, hm.limb hl⟩⟩
 ·obtain ⟨y, N, c, r⟩ := h.at_ i hi
  exact ⟨y, N, fun j hj => (hw.rest _ (by simp [cf4]; omega)).trans (c j hj), fun q => ⟨(r (by omega)).1, (r (by omega)).2.limb hl⟩⟩
/-- Filled, as coefficients. -/
theorem CfR.full {w : World} {g n : Nat} {f : Nat → Int × Rat} {l : List (Nat × Rat)} (h : CfR w g n n f) (hl : l.length = n) (hf : ∀ i, i < n → f i = (((cq l i).1 : Int), (cq l i).2)) : QfAt w l (some ⟨g, 0, none⟩) := by
 intro _
 refine ⟨g, 0, rfl, fun i hi => ?_⟩
 obtain ⟨x, N, c, r⟩ := h.at_ i (by omega)
 obtain ⟨r1, r2⟩ := r (by omega)
 rw [hf i (by omega)] at r1 r2
 have c0 := c 0 (by omega); have c1 := c 1 (by omega); have c2 := c 2 (by omega); have c3 := c 3 (by omega)
 refine ⟨N, ?_, ?_, ?_, ?_, r2⟩
 ·rw [Nat.zero_add]; rw [Nat.add_zero] at c0; rw [c0, r1]; rfl
 ·rw [Nat.zero_add]; exact c1
 ·rw [Nat.zero_add]; exact c2
 ·rw [Nat.zero_add]; exact c3
end Go.Proofs.Ytijdglogadnbcaa
namespace Go.Proofs.Ytijdglogadnbcaa
open Go.RowKit
/-- Digits in a block that is known whole. -/
def HB (w : World) (g : Nat) (l : List Nat) : Prop := w.heap[g]? = some (.cells (i64s l).toArray 3 (0, 0))
theorem HB.cell {w : World} {g : Nat} {l : List Nat} (h : HB w g l) {i : Nat} (hi : i < l.length) : w.cell? ⟨g, i, none⟩ = some (.int .i64 ((l.getD i 0 : Nat) : Int)) := by
 rw [cell_of_row w g i _ _ _ h, List.getElem?_toArray]; exact i64s_get l hi
theorem HB.free {w : World} {g : Nat} {l : List Nat} (h : HB w g l) (i : Nat) : w.frozen? ⟨g, i, none⟩ = false := by
 unfold HB at h; simp [World.frozen?, h]
theorem HB.lt {w : World} {g : Nat} {l : List Nat} (h : HB w g l) : g < w.heap.size := (Array.getElem?_eq_some_iff.1 h).1
theorem HB.set {w : World} {g : Nat} {l : List Nat} (h : HB w g l) (i x : Nat) : HB (w.setCell ⟨g, i, none⟩ (.int .i64 ((x : Nat) : Int))) g (l.set i x) := by
 unfold HB
 rw [heap_setCell_same w g i _ _ _ h]
 simp [i64s, List.map_set]
theorem HB.at_ {w : World} {g : Nat} {l : List Nat} (h : HB w g l) : IAt w l (some ⟨g, 0, none⟩) := fun _ => ⟨g, 0, rfl, fun i hi => by rw [Nat.zero_add]; exact h.cell hi⟩
theorem hb_made {w1 : World} {g n : Nat} (h : w1.ownsRow 0 3 1 (.slice (some ⟨g, 0, none⟩) n n) n (madeCells (Value.int .i64 0).cells (n * 1)).toList) : HB w1 g (List.replicate n 0) := by
 have e : (madeCells (Value.int .i64 0).cells (n * 1)).toList = i64s (List.replicate n 0) := by
  simp only [madeCells, i64s, Value.cells, Nat.mul_one]
  refine List.ext_getElem (by simp) fun i h1 h2 => ?_
  simp [Nat.mod_one]
 rw [e] at h
 rcases h.2 with ⟨q, _⟩ | ⟨g', cap, cur, q, _, hg, _, _, hs, ht⟩
 ·simp at q
 ·simp only [Value.slice.injEq, Option.some.injEq, Addr.mk.injEq] at q
  obtain ⟨⟨rfl, _, _⟩, _, rfl⟩ := q
  unfold HB
  rw [hg]
  congr 2
  rw [Nat.mul_one] at ht hs
  rw [← ht, List.take_of_length_le (by simp [hs])]
theorem i64_id (n : Int) (h0 : 0 ≤ n) (h1 : n < 2 ^ 63) : IntKind.i64.wrap n = n := IntWalk.i64_in n (by omega)
theorem half_arith {x y : Nat} (hx : x < 65536) (hy : y < 65536) : bits .or .i64 ((x : Int) / 2) (wrap64 (bits .and .i64 (y : Int) 1 * 32768)) = ((x / 2 + y % 2 * 32768 : Nat) : Int) := by
 have e1 := (bits_nat .i64 63 (by decide) i64_id y 1 (by omega) (by decide)).1
 rw [Nat.and_one_is_mod] at e1
 rw [show (1 : Int) = ((1 : Nat) : Int) from rfl, e1]
 have hm := Nat.mod_lt y (show 0 < 2 by omega)
 have e2 : wrap64 (((y % 2 : Nat) : Int) * 32768) = ((y % 2 : Nat) : Int) * 32768 := by simp only [wrap64]; omega
 rw [e2, show (x : Int) / 2 = ((x / 2 : Nat) : Int) from rfl, show ((y % 2 : Nat) : Int) * 32768 = ((y % 2 * 32768 : Nat) : Int) from by omega]
 rw [(bits_nat .i64 63 (by decide) i64_id (x / 2) (y % 2 * 32768) (by omega) (by omega)).2]
 congr 1
 have := Nt.or_low (s := 15) (x := x / 2) (m := y % 2) (by omega)
 rw [show y % 2 * 32768 = 2 ^ 15 * (y % 2) from by omega, this]
def HfL (w : World) (g : Nat) (l : List Nat) (n : Nat) (i : Value) (wr : World) : Prop :=
 ∃ k : Nat, k ≤ n ∧ i = .int .i64 (k : Int) ∧ HB wr g ((Nh.hf l).take k ++ (List.replicate n 0).drop k) ∧ Below w.heap.size w wr
def SnL (w : World) (la lb : List Nat) (n : Nat) (v bo i : Value) (wr : World) : Prop :=
 ∃ (k : Nat) (ds : List Nat) (r : Nat), k ≤ n ∧ i = .int .i64 (k : Int) ∧ bo = .int .i64 (r : Int) ∧ Nh.SubI la lb k ds r ∧ wr.ownsRow w.heap.size 3 1 v k (i64s ds) ∧ Below w.heap.size w wr
/-- One number more at the end of a row of the call's own. -/
theorem SnL.next {w wd w1 : World} {la lb ds : List Nat} {n k r d r' : Nat} {v v' : Value} (hk : k < n) (I : Nh.SubI la lb k ds r) (hd : d < 65536) (hr : r' ≤ 1) (he : la.getD k 0 + r' * 65536 = d + lb.getD k 0 + r)
  (B : Below w.heap.size w wd) (O : wd.ownsRow w.heap.size 3 1 v k (i64s ds)) (o : Obj) (O1 : w1.ownsRow w.heap.size 3 1 v' (k + 1) (i64s ds ++ [Value.int .i64 (d : Int)])) (G : (wd.alloc o).grownBy w1 v.ownBlock) :
  SnL w la lb n v' (.int .i64 (r' : Int)) (.int .i64 ((k : Int) + 1)) w1 := by
 refine ⟨k + 1, ds ++ [d], r', by omega, by go_num, rfl, I.step hd hr he, ?_, ?_⟩
 ·have e : i64s (ds ++ [d]) = i64s ds ++ [Value.int .i64 (d : Int)] := by simp [i64s]
  rw [e]; exact O1
 ·have BA : Below wd.heap.size wd (wd.alloc o) := (Below.refl _ _).alloc (Nat.le_refl _) _
  refine ⟨G.os.trans (BA.os.trans B.os), G.tape.trans (BA.tape.trans B.tape), G.output.trans (BA.output.trans B.output), Nat.le_trans B.size (Nat.le_trans BA.size G.size), fun q hq => ?_⟩
  rw [G.block q (Nat.lt_of_lt_of_le hq (Nat.le_trans B.size BA.size)) (fun e => by have := (O.lt q e.symm).1; omega)]
  exact (BA.block q (Nat.lt_of_lt_of_le hq B.size)).trans (B.block q hq)
theorem one_cell_new (w : World) (d : Nat) : ∀ j u, [Value.int .i64 (d : Int)][j]? = some u → (w.alloc (.cells #[.int .i64 (d : Int)] 3)).cell? ((⟨w.heap.size, 0, none⟩ : Addr).add j) = some u := by
 intro j u hu
 rw [Addr.add_lit, Nat.zero_add, cell_of_row _ w.heap.size j _ _ _ (heap_alloc_new w (.cells #[.int .i64 (d : Int)] 3))]
 rcases j with _ | j <;> simp at hu ⊢ <;> exact hu
/-- Shifting to the left by q digits and s bits, on the way. -/
structure ShH (la : List Nat) (q s k : Nat) (out : List Nat) (cc : Nat) : Prop where
 len : out.length = q + k
 lm : Nh.Lm out
 cb : cc < 2 ^ s
 eq : Nh.vl out + cc * 65536 ^ (q + k) = 65536 ^ q * (2 ^ s * Nh.vl (la.take k))
theorem ShH.nil (la : List Nat) (q s : Nat) : ShH la q s 0 (List.replicate q 0) 0 := by
 have z : ∀ m, Nh.vl (List.replicate m 0) = 0 := fun m => by induction m with | zero => rfl | succ m ih => simp [List.replicate_succ, Nh.vl, ih]
 exact ⟨by simp, fun x hx => by rw [List.mem_replicate] at hx; omega, Nat.two_pow_pos s, by rw [z]; simp [Nh.vl]⟩
theorem ShH.step {la : List Nat} (h : Nh.Lm la) {q s k cc t : Nat} {out : List Nat} (I : ShH la q s k out cc) (ht : t = la.getD k 0 * 2 ^ s + cc) : ShH la q s (k + 1) (out ++ [t % 65536]) (t / 65536) := by
 have hx := Nh.lm_getD h k
 have hc := I.cb
 refine ⟨by rw [List.length_append, I.len]; rfl, Nh.lm_snoc I.lm (Nat.mod_lt _ (by omega)), ?_, ?_⟩
 ·refine Nat.div_lt_of_lt_mul ?_
  have : (la.getD k 0 + 1) * 2 ^ s ≤ 65536 * 2 ^ s := Nat.mul_le_mul_right _ hx
  rw [Nat.add_mul] at this
  omega
 ·rw [Nh.vl_snoc, I.len, Nh.vl_take_succ, show q + (k + 1) = (q + k) + 1 from by omega, Nat.pow_succ]
  have e := Nh.carry_eq (65536 ^ (q + k)) t
  have e1 := I.eq
  have e2 : 65536 ^ q * (2 ^ s * (Nh.vl (la.take k) + 65536 ^ k * la.getD k 0)) = 65536 ^ q * (2 ^ s * Nh.vl (la.take k)) + 65536 ^ (q + k) * (la.getD k 0 * 2 ^ s) := by
   rw [Nat.mul_add, Nat.mul_add, Nat.pow_add]
   congr 1
   simp only [Nat.mul_assoc, Nat.mul_left_comm, Nat.mul_comm]
  have e3 : 65536 ^ (q + k) * t = 65536 ^ (q + k) * (la.getD k 0 * 2 ^ s) + cc * 65536 ^ (q + k) := by rw [ht, Nat.mul_add, Nat.mul_comm cc]
  rw [e2, ← e1]
  omega
theorem ShH.done {la : List Nat} {q s cc : Nat} {out : List Nat} (I : ShH la q s la.length out cc) : Nh.vl (out ++ [cc]) = Nh.vl la * 2 ^ (16 * q + s) := by
 have e := I.eq
 rw [List.take_of_length_le (Nat.le_refl _)] at e
 rw [Nh.vl_snoc, I.len, Nat.mul_comm (65536 ^ (q + la.length)), e, Nat.pow_add, Nat.pow_mul, show (2 : Nat) ^ 16 = 65536 from by decide]
 simp only [Nat.mul_assoc, Nat.mul_left_comm, Nat.mul_comm]
theorem shl_arith {x cc s : Nat} (hx : x < 65536) (hs : s < 16) (hc : cc < 2 ^ s) : bits .or .i64 (wrap64 ((x : Int) * 2 ^ s)) (cc : Int) = ((x * 2 ^ s + cc : Nat) : Int) ∧ x * 2 ^ s + cc < 4294967296 := by
 have a1 : 2 ^ s ≤ 2 ^ 15 := Nat.pow_le_pow_right (by omega) (by omega)
 have a2 : x * 2 ^ s ≤ 65535 * 2 ^ 15 := Nat.mul_le_mul (by omega) a1
 have e0 : wrap64 ((x : Int) * 2 ^ s) = ((x * 2 ^ s : Nat) : Int) := by
  rw [show (x : Int) * 2 ^ s = ((x * 2 ^ s : Nat) : Int) from by rw [Int.natCast_mul, Int.natCast_pow]; rfl]
  generalize x * 2 ^ s = y at *
  simp only [wrap64]; omega
 refine ⟨?_, by omega⟩
 rw [e0, (bits_nat .i64 63 (by decide) i64_id (x * 2 ^ s) cc (by omega) (by omega)).2]
 congr 1
 have := Nt.or_low (s := s) (x := cc) (m := x) hc
 rw [Nat.or_comm, Nat.mul_comm x, this, Nat.add_comm]
def ShO (w : World) (la : List Nat) (q s n : Nat) (v ca i : Value) (wr : World) : Prop :=
 ∃ (k : Nat) (out : List Nat) (cc : Nat), k ≤ n ∧ i = .int .i64 (k : Int) ∧ ca = .int .i64 (cc : Int) ∧ ShH la q s k out cc ∧ wr.ownsRow w.heap.size 3 1 v (q + k) (i64s out) ∧ Below w.heap.size w wr
theorem below_append {w wd w1 : World} {v : Value} {k : Nat} {xs : List Value} (o : Obj) (B : Below w.heap.size w wd) (O : wd.ownsRow w.heap.size 3 1 v k xs) (G : (wd.alloc o).grownBy w1 v.ownBlock) : Below w.heap.size w w1 := by
 have BA : Below wd.heap.size wd (wd.alloc o) := (Below.refl _ _).alloc (Nat.le_refl _) _
 refine ⟨G.os.trans (BA.os.trans B.os), G.tape.trans (BA.tape.trans B.tape), G.output.trans (BA.output.trans B.output), Nat.le_trans B.size (Nat.le_trans BA.size G.size), fun q hq => ?_⟩
 rw [G.block q (Nat.lt_of_lt_of_le hq (Nat.le_trans B.size BA.size)) (fun e => by have := (O.lt q e.symm).1; omega)]
 exact (BA.block q (Nat.lt_of_lt_of_le hq B.size)).trans (B.block q hq)
theorem i64s_snoc (l : List Nat) (d : Nat) : i64s l ++ [Value.int .i64 (d : Int)] = i64s (l ++ [d]) := by simp [i64s]
theorem made_i64 (n : Nat) : (madeCells (Value.int .i64 0).cells (n * 1)).toList = i64s (List.replicate n 0) := by
 simp only [madeCells, i64s, Value.cells, Nat.mul_one]
 refine List.ext_getElem (by simp) fun i h1 h2 => ?_
 simp [Nat.mod_one]
end Go.Proofs.Ytijdglogadnbcaa
namespace Go.Proofs.Ytijdglogadnbcaa
open Go.RowKit
end Go.Proofs.Ytijdglogadnbcaa
namespace Go.Proofs.Ytijdglogadnbcaa
open Go.RowKit
theorem and1_i64 {y : Nat} (hy : y < 65536) : bits .and .i64 (y : Int) 1 = ((y % 2 : Nat) : Int) := by
 have e1 := (bits_nat .i64 63 (by decide) i64_id y 1 (by omega) (by decide)).1
 rw [Nat.and_one_is_mod] at e1
 exact e1
structure GdI (w : World) (G N p q t : Nat) (a : Option Addr) (n c : Nat) (b : Option Addr) (m d : Nat) (wr : World) : Prop where
 A : HAt wr (Nh.toL p) a n c
 B : HAt wr (Nh.toL q) b m d
 g : Nat.gcd p q * 2 ^ t = G
 p0 : 0 < p
 q0 : 0 < q
 n1 : n ≤ N
 m1 : m ≤ N
 t1 : t ≤ 16 * N
 gb : G < 2 ^ (16 * N)
 bl : Below w.heap.size w wr
theorem GdI.both {w wr w1 w2 : World} {G N p q t n c m d n' c' m' d' : Nat} {a b a' b' : Option Addr} (I : GdI w G N p q t a n c b m d wr) (e1 : p % 2 = 0) (e2 : q % 2 = 0)
  (h1 : HAt w1 (Nh.toL (p / 2)) a' n' c') (b1 : Below wr.heap.size wr w1) (h2 : HAt w2 (Nh.toL (q / 2)) b' m' d') (b2 : Below w1.heap.size w1 w2) : GdI w G N (p / 2) (q / 2) (t + 1) a' n' c' b' m' d' w2 := by
 have p0 := I.p0; have q0 := I.q0
 have l1 := Nh.toL_len_le (Nat.div_le_self p 2)
 have l2 := Nh.toL_len_le (Nat.div_le_self q 2)
 rw [h1.len, I.A.len] at l1
 rw [h2.len, I.B.len] at l2
 have g2 : Nat.gcd (p / 2) (q / 2) * 2 ^ (t + 1) = G := by
  rw [← I.g]
  have : Nat.gcd p q = 2 * Nat.gcd (p / 2) (q / 2) := by rw [← Nh.gcd_half_both]; congr 1 <;> omega
  rw [this, Nat.pow_succ]
  simp only [Nat.mul_assoc, Nat.mul_left_comm, Nat.mul_comm]
 have t2 : t + 1 ≤ 16 * N := by
  have gp : 0 < Nat.gcd (p / 2) (q / 2) := Nat.gcd_pos_of_pos_left _ (by omega)
  have h : 2 ^ (t + 1) ≤ G := by rw [← g2]; exact Nat.le_mul_of_pos_left _ gp
  exact Nat.le_of_lt ((Nat.pow_lt_pow_iff_right (by omega)).1 (Nat.lt_of_le_of_lt h I.gb))
 exact ⟨h1.below b2, h2, g2, by omega, by omega, Nat.le_trans l1 I.n1, Nat.le_trans l2 I.m1, t2, I.gb, Below.over (Below.over I.bl I.bl.size b1) (Nat.le_trans I.bl.size b1.size) b2⟩
theorem GdI.left {w wr w1 : World} {G N p q t n c m d n' c' : Nat} {a b a' : Option Addr} (I : GdI w G N p q t a n c b m d wr) (e1 : p % 2 = 0) (e2 : q % 2 = 1)
  (h1 : HAt w1 (Nh.toL (p / 2)) a' n' c') (b1 : Below wr.heap.size wr w1) : GdI w G N (p / 2) q t a' n' c' b m d w1 := by
 have p0 := I.p0
 have l1 := Nh.toL_len_le (Nat.div_le_self p 2)
 rw [h1.len, I.A.len] at l1
 have g2 : Nat.gcd (p / 2) q = Nat.gcd p q := by rw [← Nh.gcd_half_left e2]; congr 1; omega
 exact ⟨h1, I.B.below b1, by rw [g2]; exact I.g, by omega, I.q0, Nat.le_trans l1 I.n1, I.m1, I.t1, I.gb, Below.over I.bl I.bl.size b1⟩
theorem GdI.right {w wr w1 : World} {G N p q t n c m d m' d' : Nat} {a b b' : Option Addr} (I : GdI w G N p q t a n c b m d wr) (e1 : q % 2 = 0) (e2 : p % 2 = 1)
  (h1 : HAt w1 (Nh.toL (q / 2)) b' m' d') (b1 : Below wr.heap.size wr w1) : GdI w G N p (q / 2) t a n c b' m' d' w1 := by
 have q0 := I.q0
 have l1 := Nh.toL_len_le (Nat.div_le_self q 2)
 rw [h1.len, I.B.len] at l1
 have g2 : Nat.gcd p (q / 2) = Nat.gcd p q := by rw [← Nh.gcd_half_right e2]; congr 1; omega
 exact ⟨I.A.below b1, h1, by rw [g2]; exact I.g, I.p0, by omega, I.n1, Nat.le_trans l1 I.m1, I.t1, I.gb, Below.over I.bl I.bl.size b1⟩
theorem GdI.swap {w wr : World} {G N p q t n c m d : Nat} {a b : Option Addr} (I : GdI w G N p q t a n c b m d wr) : GdI w G N q p t b m d a n c wr :=
 ⟨I.B, I.A, by rw [Nat.gcd_comm]; exact I.g, I.q0, I.p0, I.m1, I.n1, I.t1, I.gb, I.bl⟩
theorem GdI.ends {w wr : World} {G N p q t n c m d : Nat} {a b : Option Addr} (I : GdI w G N p q t a n c b m d wr) (h : p = q) : q * 2 ^ t = G := by
 have := I.g; rw [h, Nat.gcd_self] at this; exact this
def GdA (w : World) (G N k : Nat) (v0 v1 v2 : Value) (wr : World) : Prop :=
 ∃ (p q t : Nat) (a : Option Addr) (n c : Nat) (b : Option Addr) (m d : Nat), v0 = .slice a n c ∧ v1 = .slice b m d ∧ v2 = .int .i64 (t : Int) ∧ p ≤ k ∧ GdI w G N p q t a n c b m d wr
/-- The outer loop: behind a difference, which may be 0. -/
def GdO (w : World) (G N k : Nat) (tw : Nat) (v0 v1 : Value) (wr : World) : Prop :=
 ∃ (p q : Nat) (a : Option Addr) (n c : Nat) (b : Option Addr) (m d : Nat), v0 = .slice a n c ∧ v1 = .slice b m d ∧ p + q ≤ k ∧ HAt wr (Nh.toL p) a n c ∧ (p = 0 → HAt wr (Nh.toL q) b m d ∧ q ≠ 0 ∧ q * 2 ^ tw = G ∧ m ≤ N ∧ Below w.heap.size w wr) ∧ (p ≠ 0 → (p % 2 = 0 → q % 2 = 1) ∧ GdI w G N p q tw a n c b m d wr)
def GdL (w : World) (G N k tw s : Nat) (b : Option Addr) (q m d : Nat) (v0 : Value) (wr : World) : Prop :=
 ∃ (p : Nat) (a : Option Addr) (n c : Nat), v0 = .slice a n c ∧ p ≤ k ∧ p + q ≤ s ∧ (p % 2 = 0 → q % 2 = 1) ∧ GdI w G N p q tw a n c b m d wr
def GdR (w : World) (G N k tw s : Nat) (a : Option Addr) (p n c : Nat) (v1 : Value) (wr : World) : Prop :=
 ∃ (q : Nat) (b : Option Addr) (m d : Nat), v1 = .slice b m d ∧ q ≤ k ∧ p + q ≤ s ∧ GdI w G N p q tw a n c b m d wr
theorem hlen_zero {w : World} {x : Nat} {a : Option Addr} {n c : Nat} (h : HAt w (Nh.toL x) a n c) : n = 0 ↔ x = 0 := by
 rw [← h.len]
 constructor
 ·intro e; have := Nh.vl_toL x; rw [List.length_eq_zero_iff.1 e] at this; exact this.symm
 ·rintro rfl; rw [Nh.toL_zero]; rfl
theorem GdI.sub {w wr w1 : World} {G N p q t n c m d n' c' : Nat} {a b a' : Option Addr} (I : GdI w G N p q t a n c b m d wr) (hle : q ≤ p) (oq : q % 2 = 1)
  (h1 : HAt w1 (Nh.toL (p - q)) a' n' c') (b1 : Below wr.heap.size wr w1) : GdO w G N p t (.slice a' n' c') (.slice b m d) w1 := by
 have l1 := Nh.toL_len_le (Nat.sub_le p q)
 rw [h1.len, I.A.len] at l1
 refine ⟨p - q, q, a', n', c', b, m, d, rfl, rfl, by omega, h1, fun e => ⟨I.B.below b1, by have := I.q0; omega, I.ends (by omega), I.m1, Below.over I.bl I.bl.size b1⟩, fun e => ⟨fun _ => oq, ?_⟩⟩
 exact ⟨h1, I.B.below b1, by rw [Nh.gcd_sub hle]; exact I.g, by omega, I.q0, Nat.le_trans l1 I.n1, I.m1, I.t1, I.gb, Below.over I.bl I.bl.size b1⟩
theorem top_blen {x k : Nat} (hl : (Nh.toL x).length = k + 1) : Nh.blen x = 16 * k + Nh.blen ((Nh.toL x).getD k 0) := by
 have e := Nh.vh_at (Nh.toL x) k
 rw [Nh.vl_toL, List.drop_of_length_le (by omega)] at e
 have t0 : (Nh.toL x).getD k 0 ≠ 0 := by
  rcases Nh.toL_last x with q | q
  ·rw [q] at hl; simp at hl
  ·intro h; apply q
   rw [List.getLast?_eq_getElem?, hl, Nat.add_sub_cancel, List.getElem?_eq_getElem (by omega)]
   rw [List.getD_eq_getElem?_getD, List.getElem?_eq_getElem (by omega)] at h
   simpa using h
 have lo := Nh.vh_take_lt (Nh.toL_lm x) k
 have pw : 65536 ^ k = 2 ^ (16 * k) := by rw [Nat.pow_mul]
 rw [pw] at e lo
 generalize Nh.vl ((Nh.toL x).take k) = l at *
 generalize (Nh.toL x).getD k 0 = t at *
 have : x = l + 2 ^ (16 * k) * t := by rw [e]; simp [Nh.vl]
 rw [this]; exact Nh.blen_top t0 lo
def LnL (B : Nat) (v i : Value) : Prop := ∃ (x n : Nat), v = .int .i64 (n : Int) ∧ i = .int .i64 (x : Int) ∧ n + Nh.blen x = B ∧ x < 65536
theorem hone_new (w : World) : HAt (w.alloc (.cells #[.int .i64 1] 3)) (Nh.toL 1) (some ⟨w.heap.size, 0, none⟩) 1 1 := by
 have U : HB (w.alloc (.cells #[.int .i64 1] 3)) w.heap.size [1] := heap_alloc_new w _
 have e : Nh.toL 1 = [1] := by rw [Nh.toL_pos (by omega)]; simp [Nh.toL_zero]
 rw [e]
 exact ⟨U.at_, rfl, Nat.le_refl _, by omega, fun x hx => by simp at hx; omega⟩
/-- The last limb of a list. -/
theorem last_cell {w : World} {l : List Nat} {a : Option Addr} {n c : Nat} (h : LAt w l a n c) (h0 : n ≠ 0) : ∃ (g o k x : Nat), n = k + 1 ∧ a = some ⟨g, o, none⟩ ∧ w.cell? ⟨g, o + k, none⟩ = some (.int .u32 (x : Int)) ∧ lastz l = decide (x = 0) := by
 obtain ⟨k, rfl⟩ : ∃ k, n = k + 1 := ⟨n - 1, by omega⟩
 obtain ⟨b, o, rfl, d⟩ := h.at_ (by intro e; have := h.len; rw [e] at this; simp at this)
 refine ⟨b, o, k, l.getD k 0, rfl, rfl, d k (by rw [h.len]; omega), ?_⟩
 unfold lastz
 rw [h.len, Nat.add_sub_cancel]
 simp
/-- A row whose carry is 0 needs no last limb. -/
theorem Nh.MulI.rest {a b : List Nat} {n i : Nat} {out : List Nat} (h : Nh.MulI a b n i b.length out 0) : Nh.MulI a b n (i + 1) 0 out 0 := by
 refine ⟨h.len, h.lm, by omega, fun j hj hjn => h.zero j (by omega) hjn, ?_⟩
 have q := h.eq
 rw [List.take_of_length_le (Nat.le_refl _)] at q
 rw [Nh.vl_take_succ, Nat.add_mul]
 have e3 : 65536 ^ i * a.getD i 0 * Nh.vl b = 65536 ^ i * (a.getD i 0 * Nh.vl b) := Nat.mul_assoc ..
 rw [e3]
 simp only [List.take_zero, Nh.vl, Nat.mul_zero, Nat.add_zero, Nat.zero_mul] at *
 exact q
def HmO (w : World) (g : Nat) (la lb : List Nat) (na n : Nat) (i : Value) (wr : World) : Prop :=
 ∃ (k : Nat) (out : List Nat), k ≤ na ∧ i = .int .i64 (k : Int) ∧ Nh.MulI la lb n k 0 out 0 ∧ HB wr g out ∧ Below w.heap.size w wr
/-- The inner loop; behind a last carry j is one beyond. -/
def HmN (w : World) (g : Nat) (la lb : List Nat) (n i nb : Nat) (c k : Value) (wr : World) : Prop :=
 ∃ (j cc : Nat) (out : List Nat), j ≤ nb + 1 ∧ k = .int .i64 (j : Int) ∧ c = .int .i64 (cc : Int) ∧ cc < 65536 ∧ (j ≤ nb → Nh.MulI la lb n i j out cc) ∧ (j = nb + 1 → cc = 0 ∧ Nh.MulI la lb n (i + 1) 0 out 0) ∧ HB wr g out ∧ Below w.heap.size w wr
theorem HmN.step {w wr : World} {g n i j nb cc s : Nat} {la lb out : List Nat} (hla : Nh.Lm la) (hlb : Nh.Lm lb) (hn : lb.length = nb) (hj : j < nb) (hin : i + j < n) (M : Nh.MulI la lb n i j out cc) (U : HB wr g out) (B : Below w.heap.size w wr) (hg : w.heap.size ≤ g)
  (hs : s = cc + la.getD i 0 * lb.getD j 0 + out.getD (i + j) 0) :
  HmN w g la lb n i nb (.int .i64 ((s : Int) / 65536)) (.int .i64 ((j : Int) + 1)) (wr.setCell ⟨g, i + j, none⟩ (.int .i64 ((s : Int) % 65536))) := by
 have M2 := M.step hla hlb (by omega) hin
 rw [← hs] at M2
 refine ⟨j + 1, s / 65536, out.set (i + j) (s % 65536), by omega, by go_num, by go_num, M2.c1, fun _ => M2, fun e => by omega, ?_, B.setCell hg _⟩
 have := U.set (i + j) (s % 65536)
 rw [show ((s : Int) % 65536) = ((s % 65536 : Nat) : Int) from by omega]
 exact this
theorem HmN.last {w wr : World} {g n i nb cc : Nat} {la lb out : List Nat} (hn : lb.length = nb) (hin : i + nb < n) (M : Nh.MulI la lb n i nb out cc) (U : HB wr g out) (B : Below w.heap.size w wr) (hg : w.heap.size ≤ g) :
  HmN w g la lb n i nb (.int .i64 ((cc : Int) / 65536)) (.int .i64 ((nb : Int) + 1)) (wr.setCell ⟨g, i + nb, none⟩ (.int .i64 ((cc : Int) % 65536))) := by
 have c1 := M.c1
 refine ⟨nb + 1, 0, out.set (i + nb) cc, by omega, by go_num, by rw [show (cc : Int) / 65536 = ((0 : Nat) : Int) from by omega], by omega, fun e => by omega, fun _ => ⟨rfl, ?_⟩, ?_, B.setCell hg _⟩
 ·subst hn; exact M.next (by omega)
 ·rw [show (cc : Int) % 65536 = (cc : Int) from by omega]; exact U.set (i + nb) cc
end Go.Proofs.Ytijdglogadnbcaa
