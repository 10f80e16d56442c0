/- lp.New: what its parts come to. No program. -/
import Derived.Test.YtijdglogadnbcaaZ27
import Derived.Test.YtijdglogadnbcaaZ18
import Derived.Test.YtijdglogadnbcaaProg
import Derived.Shelf.Bits.Mul64
import Derived.Test.YtijdglogadnbcaaZ19
import Derived.Deep.RegionLaw
import Derived.Test.YtijdglogadnbcaaZ14
set_option linter.unusedVariables false
set_option linter.unusedSimpArgs false
set_option maxRecDepth 100000
set_option maxHeartbeats 40000000
namespace Go.Proofs.Ytijdglogadnbcaa
open Go.RowKit Nt Bl
/-- Coefficients laid into a line, the first i of them. -/
def cofT (l : List (Nat × Rat)) : Nat → Nat → Rat
 | 0, _ => 0
 | i + 1, j => if j = (cq l i).1 then (cq l i).2 else cofT l i j
def cof (l : List (Nat × Rat)) : Nat → Rat := cofT l l.length
def Rl.ln (R : Rl) : Ln := ⟨cof R.cs, R.rel, R.bd⟩
def lns (l : List Rl) : List Ln := l.map Rl.ln
theorem lns_len (l : List Rl) : (lns l).length = l.length := List.length_map ..
theorem lns_get {l : List Rl} {i : Nat} (h : i < l.length) : (lns l)[i]? = some (rq l i).ln := by
 unfold lns rq; rw [List.getElem?_map, List.getD_eq_getElem?_getD, List.getElem?_eq_getElem h]; rfl
/-- The rows, and the goal as a further one. -/
def alR (l : List Rl) (gl : List (Nat × Rat)) : List Rl := l ++ [⟨gl, 0, 0⟩]
theorem alR_len (l : List Rl) (gl : List (Nat × Rat)) : (alR l gl).length = l.length + 1 := by simp [alR]
theorem alR_T {l : List Rl} {gl : List (Nat × Rat)} {n i : Nat} (h : i < l.length + 1) : (Pb0 (lns l) n (cof gl)).T i = cof (rq (alR l gl) i).cs := by
 funext k
 show (match (lns l)[i]? with | some r => r.co k | none => cof gl k) = _
 by_cases e : i < l.length
 ·rw [lns_get e]; unfold alR; rw [rq_append e]; rfl
 ·obtain rfl : i = l.length := by omega
  rw [List.getElem?_eq_none (by rw [lns_len]; omega)]
  unfold alR; rw [rq_last]
theorem high_row {l : List Rl} {gl : List (Nat × Rat)} {n i : Nat} (h : i < l.length) : (Pb0 (lns l) n (cof gl)).high (n + i) = some ⟨(rq l i).bd, if (rq l i).rel = 2 then -1 else 0⟩ := by
 show (if n + i < n then none else ((lns l)[n + i - n]?).map Ln.hi) = _
 rw [if_neg (by omega), show n + i - n = i from by omega, lns_get h]; rfl
theorem low_row {l : List Rl} {gl : List (Nat × Rat)} {n i : Nat} (h : i < l.length) : (Pb0 (lns l) n (cof gl)).low (n + i) = if (rq l i).rel = 1 ∨ (rq l i).rel = 2 then none else some ⟨(rq l i).bd, 0⟩ := by
 show (if n + i < n then none else ((lns l)[n + i - n]?).bind Ln.lo) = _
 rw [if_neg (by omega), show n + i - n = i from by omega, lns_get h]; rfl
theorem high_end {l : List Rl} {gl : List (Nat × Rat)} {n v : Nat} (h : v < n ∨ n + l.length ≤ v) : (Pb0 (lns l) n (cof gl)).high v = none := by
 show (if v < n then none else ((lns l)[v - n]?).map Ln.hi) = _
 by_cases c : v < n
 ·rw [if_pos c]
 ·rw [if_neg c, List.getElem?_eq_none (by rw [lns_len]; omega)]; rfl
theorem low_end {l : List Rl} {gl : List (Nat × Rat)} {n v : Nat} (h : v < n ∨ n + l.length ≤ v) : (Pb0 (lns l) n (cof gl)).low v = none := by
 show (if v < n then none else ((lns l)[v - n]?).bind Ln.lo) = _
 by_cases c : v < n
 ·rw [if_pos c]
 ·rw [if_neg c, List.getElem?_eq_none (by rw [lns_len]; omega)]; rfl
/-- Ends behind the first i rows. -/
def hiT (P : Pb) (i v : Nat) : Option V := if v < P.n + i then P.high v else none
def loT (P : Pb) (i v : Nat) : Option V := if v < P.n + i then P.low v else none
theorem hiT_next (P : Pb) (i : Nat) : (fun j => if j = P.n + i then P.high (P.n + i) else hiT P i j) = hiT P (i + 1) := by
 funext j
 unfold hiT
 by_cases e : j = P.n + i
 ·rw [if_pos e, if_pos (by omega), e]
 ·rw [if_neg e]
  by_cases c : j < P.n + i
  ·rw [if_pos c, if_pos (by omega)]
  ·rw [if_neg c, if_neg (by omega)]
theorem loT_next (P : Pb) (i : Nat) : (fun j => if j = P.n + i then P.low (P.n + i) else loT P i j) = loT P (i + 1) := by
 funext j
 unfold loT
 by_cases e : j = P.n + i
 ·rw [if_pos e, if_pos (by omega), e]
 ·rw [if_neg e]
  by_cases c : j < P.n + i
  ·rw [if_pos c, if_pos (by omega)]
  ·rw [if_neg c, if_neg (by omega)]
theorem hiT_same {P : Pb} {i : Nat} (h : P.high (P.n + i) = none) : hiT P (i + 1) = hiT P i := by
 funext j
 unfold hiT
 by_cases c : j < P.n + i
 ·rw [if_pos c, if_pos (by omega)]
 ·rw [if_neg c]
  by_cases e : j = P.n + i
  ·rw [if_pos (by omega), e, h]
  ·rw [if_neg (by omega)]
theorem loT_same {P : Pb} {i : Nat} (h : P.low (P.n + i) = none) : loT P (i + 1) = loT P i := by
 funext j
 unfold loT
 by_cases c : j < P.n + i
 ·rw [if_pos c, if_pos (by omega)]
 ·rw [if_neg c]
  by_cases e : j = P.n + i
  ·rw [if_pos (by omega), e, h]
  ·rw [if_neg (by omega)]
theorem Laid.line {w : World} {g n : Nat} {M : Nw} {q : Rat} (h : Laid w g 26 M.cs n n) (r : RA w q M) : LineR w g n (fun _ => q) :=
 ⟨h.blk, fun k hk => ⟨M, by have := h.cell (j := 0) hk (by simp [Nw.cs]); simpa [Nw.cs] using this, by have := h.cell (j := 1) hk (by simp [Nw.cs]); simpa [Nw.cs] using this, by have := h.cell (j := 2) hk (by simp [Nw.cs]); simpa [Nw.cs] using this, r⟩⟩
theorem Laid.nows {w : World} {g n : Nat} {M S : Nw} {x : V} (h : Laid w g 76 (M.cs ++ S.cs) n n) (r : RA w x.m M) (s : RA w x.s S) : NowR 76 w g n (fun _ => x) :=
 ⟨h.blk, fun k hk => ⟨⟨M, by have := h.cell (j := 0) hk (by simp [Nw.cs]); simpa [Nw.cs] using this, by have := h.cell (j := 1) hk (by simp [Nw.cs]); simpa [Nw.cs] using this, by have := h.cell (j := 2) hk (by simp [Nw.cs]); simpa [Nw.cs] using this, r⟩,
  ⟨S, by have := h.cell (j := 3) hk (by simp [Nw.cs]); simpa [Nw.cs] using this, by have := h.cell (j := 4) hk (by simp [Nw.cs]); simpa [Nw.cs, Nat.add_assoc] using this, by have := h.cell (j := 5) hk (by simp [Nw.cs]); simpa [Nw.cs, Nat.add_assoc] using this, s⟩⟩⟩
/-- The beginning. -/
def Z0 (p low high now n N : Nat) (T : Nat → Nat → Rat) : PtL := ⟨p, low, high, now, n, N, .slice none 0 0, .slice none 0 0, .slice none 0 0, .slice none 0 0, .slice none 0 0, .slice none 0 0, 0, 0, 0, 0, fun _ => 0, fun _ => none, fun _ => none, T⟩
theorem pt_start {n0 : Nat} {w : World} {p low high now n N : Nat} {T : Nat → Nat → Rat} {M S : Nw} (hd : w.heap[p]? = some (.cells #[.int .i64 (n : Int), .slice (some ⟨low, 0, none⟩) N N, .slice (some ⟨high, 0, none⟩) N N, .slice (some ⟨now, 0, none⟩) N N, .slice none 0 0, .slice none 0 0, .slice none 0 0] 98 (0, 0)))
  (hl : BndR 101 w low N (fun _ => none)) (hh : BndR 101 w high N (fun _ => none)) (hn : Laid w now 76 (M.cs ++ S.cs) N N) (r : RA w 0 M) (s : RA w 0 S) (lh : low ≠ high) (g0 : n0 ≤ p) (g1 : n0 ≤ low) (g2 : n0 ≤ high) (g3 : n0 ≤ now) : Pt n0 w (Z0 p low high now n N T) :=
 ⟨hd, hl, hh, hn.nows (x := ⟨0, 0⟩) r s, Ow.nil _ _ _ _, Ow.nil _ _ _ _, Ow.nil _ _ _ _, fun k hk => absurd hk (Nat.not_lt_zero _), fun k j hk => absurd hk (Nat.not_lt_zero _), lh, fun g hg => by simp [Z0, Value.ownBlock] at hg, g0, g1, g2, g3, fun k hk => absurd hk (Nat.not_lt_zero _)⟩
theorem Ow.some {w : World} {base e size n : Nat} {v : Value} {xs : List Value} (h : Ow w base e size v n xs) (hn : 0 < n) : ∃ g cap, v = .slice (some ⟨g, 0, none⟩) n cap ∧ base ≤ g ∧ n ≤ cap ∧ cap ≤ 9223372036854775807 ∧ Blk w g e ∧ ∀ j u, xs[j]? = some u → w.cell? ⟨g, j, none⟩ = some u := by
 rcases h.own.2 with ⟨_, e0⟩ | ⟨g, cap, cur, rfl, hb, hgg, hc, hm, _⟩
 ·omega
 ·refine ⟨g, cap, rfl, hb, hc, hm, ⟨_, hgg⟩, fun j u hu => ?_⟩
  have := h.own.cells (g := g) rfl j u hu
  rwa [add_at, Nat.zero_add] at this
theorem ints_get {a k j : Nat} (h : j < k) : (ints a k)[j]? = some (.int .i64 ((a + j : Nat) : Int)) := by simp [ints, h]
theorem lnV_get {line : Nat → Nat} {n k j : Nat} (h : j < k) : (lnV line n k)[j]? = some (.slice (some ⟨line j, 0, none⟩) n n) := by simp [lnV, h]
/-- The end. -/
theorem Pt.done {n0 : Nat} {w : World} {Z : PtL} {P : Pb} (h : Pt n0 w Z) (h1 : Z.hb = Z.bv ∧ Z.hf = Z.fv ∧ Z.ht = Z.tv) (h2 : Z.ib = P.m ∧ Z.it = P.m ∧ Z.nl = P.m ∧ Z.nf = P.n) (hn : Z.n = P.n) (hN : Z.N = P.n + P.m) (hm : 0 < P.m) (b64 : P.n ≤ 64 ∧ P.m ≤ 64)
  (hlo : ∀ v, v < P.n + P.m → Z.lo v = P.low v) (hhi : ∀ v, v < P.n + P.m → Z.hi v = P.high v) (hno : ∀ v, P.now v = ⟨0, 0⟩) (hba : ∀ i, P.basic i = P.n + i) (hfr : ∀ k, P.free k = k) (hT : ∀ i, i < P.m → Z.T i = P.T i) : ∃ L, L.p = Z.p ∧ PAt n0 w L P := by
 obtain ⟨k1, k2, k3⟩ := h1
 obtain ⟨i1, i2, i3, i4⟩ := h2
 have bo := h.bo; have fo := h.fo; have to_ := h.to_
 rw [i1, hn] at bo
 rw [i4] at fo
 rw [i2, hn] at to_
 obtain ⟨gb, cb, eb, b1, b2, b3, b4, b5⟩ := bo.some hm
 obtain ⟨gt, ct, et, t1, t2, t3, t4, t5⟩ := to_.some hm
 obtain ⟨fa, fc, gf, ef, f1, f2, f3, f4, f5⟩ : ∃ fa fc gf, Z.fv = .slice fa P.n fc ∧ P.n ≤ fc ∧ fc ≤ 9223372036854775807 ∧ n0 ≤ gf ∧ gb ≠ gf ∧ (0 < P.n → fa = Option.some ⟨gf, 0, none⟩ ∧ IntR w gf P.n P.free) := by
  by_cases z : 0 < P.n
  ·obtain ⟨g, c, e, e1, e2, e3, e4, e5⟩ := fo.some z
   refine ⟨_, c, g, e, e2, e3, e1, fun q => ?_, fun _ => ⟨rfl, e4, fun i hi => ?_⟩⟩
   ·subst q
    exact h.bf gb (by rw [eb]; rfl) (by rw [e]; rfl)
   ·rw [hfr, e5 i _ (ints_get hi), Nat.zero_add]
  ·have zn : P.n = 0 := by omega
   have pb : gb ≠ Z.p := (b4.ne h.pb (by decide))
   rcases fo.own.2 with ⟨e, _⟩ | ⟨g, cap, cur, e, hb, hgg, hc, hmx, _⟩
   ·exact ⟨none, 0, Z.p, by rw [e, zn], by omega, by omega, h.ge.1, pb, fun q => absurd q z⟩
   ·exact ⟨_, cap, Z.p, e, hc, hmx, h.ge.1, pb, fun q => absurd q z⟩
 refine ⟨⟨Z.p, Z.low, Z.high, Z.now, gb, gt, gf, fa, cb, fc, ct, Z.line, fun i => Option.some ⟨Z.line i, 0, none⟩⟩, rfl, ?_⟩
 have hd := h.hd
 rw [k1, k2, k3, eb, ef, et, hn, hN] at hd
 have hlr := h.lo; have hhr := h.hi; have hnr := h.no
 rw [hN] at hlr hhr hnr
 refine ⟨hd, ⟨hlr.blk, fun v hv => by rw [← hlo v hv]; exact hlr.at_ v hv⟩, ⟨hhr.blk, fun v hv => by rw [← hhi v hv]; exact hhr.at_ v hv⟩, ⟨hnr.blk, fun v hv => by rw [hno]; exact hnr.at_ v hv⟩, ⟨b4, fun i hi => ?_⟩, f5, t4, fun i hi => t5 i _ (lnV_get hi), fun _ i hi => ⟨rfl, ?_⟩, fun i j hi hj hne => h.inj i j (by omega) (by omega) hne, f4, ⟨h.ge.2.2.2.1, b1, f3, fun i hi => h.ge.2.2.2.2 i (by omega)⟩, ⟨b2, b3, f1, f2, t2, t3⟩, b64.1, b64.2, hm⟩
 ·rw [hba]; exact b5 i _ (ints_get hi)
 ·have := h.li i (by omega)
  rw [hT i hi, hn] at this; exact this
end Go.Proofs.Ytijdglogadnbcaa
/- Regions that draw their order: one of three. No program. -/
namespace Go.Proofs.Ytijdglogadnbcaa.Rg
open Go
variable {P : Program} {ops : Array Oper} {md : Region.Mode} {Q : Exit → Act → World → Prop} {S : World → Prop} {n : Nat}
theorem wpD_three {k l m : Nat} {o p q : Oper} {f : Nat} {listed : Array Bool} {a : Act} {w : World} (hr : Region.ready .any ops listed = [k, l, m]) (ho : ops[k]? = some o) (hp : ops[l]? = some p) (hq : ops[m]? = some q) (hk : k < n) (hl : l < n) (hm0 : m < n) (inv : HeadInv .any ops n listed)
  (hw : Region.wanted o (yielded ops a.tmps) = true) (hw' : Region.wanted p (yielded ops a.tmps) = true) (hw2 : Region.wanted q (yielded ops a.tmps) = true)
  (h : ∀ K' : Act → World → Prop, Shut (∀ a w, S w → (S w → HeadInv .any ops n (listed.setIfInBounds k true) → wpD P .any ops Q n S f (listed.setIfInBounds k true) a w) → K' a w) → Oper.wp P o a w K' Q)
  (h' : ∀ K' : Act → World → Prop, Shut (∀ a w, S w → (S w → HeadInv .any ops n (listed.setIfInBounds l true) → wpD P .any ops Q n S f (listed.setIfInBounds l true) a w) → K' a w) → Oper.wp P p a w K' Q)
  (h2 : ∀ K' : Act → World → Prop, Shut (∀ a w, S w → (S w → HeadInv .any ops n (listed.setIfInBounds m true) → wpD P .any ops Q n S f (listed.setIfInBounds m true) a w) → K' a w) → Oper.wp P q a w K' Q) :
  wpD P .any ops Q n S (f + 1) listed a w := by
 have hm : k ∈ Region.ready .any ops listed := by rw [hr]; simp
 have hm' : l ∈ Region.ready .any ops listed := by rw [hr]; simp
 have hm2 : m ∈ Region.ready .any ops listed := by rw [hr]; simp
 refine ⟨fun e => by rw [hr] at e; simp at e, fun i hi => ?_⟩
 rw [hr] at hi
 simp only [List.mem_cons, List.not_mem_nil, or_false] at hi
 rcases hi with rfl | rfl | rfl
 ·refine wpOp_step ho fun K' hK => ?_
  rw [if_pos hw]
  exact h K' fun a w hS hW => hK a w ⟨fun _ => hS, hW hS (inv.set hm hk)⟩
 ·refine wpOp_step hp fun K' hK => ?_
  rw [if_pos hw']
  exact h' K' fun a w hS hW => hK a w ⟨fun _ => hS, hW hS (inv.set hm' hl)⟩
 ·refine wpOp_step hq fun K' hK => ?_
  rw [if_pos hw2]
  exact h2 K' fun a w hS hW => hK a w ⟨fun _ => hS, hW hS (inv.set hm2 hm0)⟩
end Go.Proofs.Ytijdglogadnbcaa.Rg
namespace Go.Proofs.Ytijdglogadnbcaa
open Go
def findC : Code → Nat → Option Code
 | .region id ops d, k => if id = k then some (.region id ops d) else none
 | .seq a b, k => match findC a k with | some c => some c | none => findC b k
 | .cond _ a b, k => match findC a k with | some c => some c | none => findC b k
 | .block _ a, k => findC a k
 | .loop a, k => findC a k
 | .scope a, k => findC a k
 | _, _ => none
def regC (f : Func) (k : Nat) : Code := match f.body with | some c => (findC c k).getD .skip | none => .skip
/-- K at the regular end; no other way out. -/
def Only (K : Act → World → Prop) : Exit → Act → World → Prop
 | .normal, a, w => K a w
 | _, _, _ => False
theorem wp_only {P : Program} {s : Code} {K : Act → World → Prop} {Q : Exit → Act → World → Prop} {a : Act} {w : World} (h : s.wp P (Only K) a w) (hk : ∀ a w, K a w → Q .normal a w) : s.wp P Q a w :=
 Code.wp_mono (fun e a w k => by cases e <;> first | exact hk _ _ k | exact (k : False).elim) h
end Go.Proofs.Ytijdglogadnbcaa
/- math/bits.Mul, laid from the shelf. -/
namespace Go.Proofs
open Go.Shelf
def Try.lays212_ren : Go.Shelf.Ren := ⟨fun | 212 => 62 | 263 => 82 | 264 => 83 | n => n, fun | 51 => 55 | 46 => 110 | 53 => 72 | 146 => 133 | 148 => 135 | n => n, fun | n => n⟩
theorem Try.lays212 : Go.Proofs.Lays.n212 Try.prog Try.lays212_ren := {
 mixed := by kernel_rfl
 f212 := Try.func62.trans (congrArg some (by kernel_rfl))
 f263 := Try.func82.trans (congrArg some (by kernel_rfl))
 f264 := Try.func83.trans (congrArg some (by kernel_rfl))
 t46 := Try.underlying110
 a46 := Try.isAgg110
 z46 := Try.sizeOf110
 v46 := Try.zeroValue110
 t51 := Try.underlying55
 a51 := Try.isAgg55
 z51 := Try.sizeOf55
 v51 := Try.zeroValue55
 t53 := Try.underlying72
 a53 := Try.isAgg72
 z53 := Try.sizeOf72
 v53 := Try.zeroValue72
 t146 := Try.underlying133
 a146 := Try.isAgg133
 z146 := Try.sizeOf133
 v146 := Try.zeroValue133
 t148 := Try.underlying135
 a148 := Try.isAgg135
 z148 := Try.sizeOf135
 v148 := Try.zeroValue135 }
theorem Try.bits_Mul (x y : Nat) (hx : x < 18446744073709551616) (hy : y < 18446744073709551616) (w : World) :
  Calls Try.prog 62 #[.int .u64 x, .int .u64 y] w fun e w' => e = .returned (.tuple #[.int .u64 ((x * y / 18446744073709551616 : Nat) : Int), .int .u64 ((x * y % 18446744073709551616 : Nat) : Int)]) ∧ w' = w := Any.bits_Mul Try.lays212 x y hx hy w
end Go.Proofs
namespace Go.Proofs.Ytijdglogadnbcaa
open Go.RowKit
theorem info174 : (Try.prog.info? 76).map (fun i => (i.zero, i.size, i.bytes)) = some (some (.agg #[.bool false, .slice none 0 0, .slice none 0 0, .bool false, .slice none 0 0, .slice none 0 0]), 6, 112) := by kernel_rfl
theorem hsz174 : (Try.prog.info? 76).map (·.size) = some 6 := by kernel_rfl
theorem repV_any {w : World} {g n : Nat} {M S : Nw} (h : VB w g M S) (hn : n ≤ 200) :
  Calls Try.prog 43 #[.slice (some ⟨g, 0, none⟩) 1 1, .int .i64 (n : Int)] w fun e w' => ∃ g2, e = .returned (.slice (some ⟨g2, 0, none⟩) n n) ∧ Laid w' g2 76 (M.cs ++ S.cs) n n ∧ w.heap.size ≤ g2 ∧ Below w.heap.size w w' := by
 obtain ⟨cs, hcs⟩ : ∃ cs : List Value, cs = M.cs ++ S.cs := ⟨_, rfl⟩
 have CL : Hid (cs.length = 6) := by show _ = _; rw [hcs]; rfl
 have CO : Hid (∀ v ∈ cs, v.oneCell' = true) := by
  show ∀ v ∈ cs, _
  rw [hcs]
  intro v hv
  simp [Nw.cs] at hv
  rcases hv with rfl | rfl | rfl | rfl | rfl | rfl <;> rfl
 have SRC : Hid (Laid w g 76 cs 1 1) := ⟨cs, by rw [hcs]; exact h, by rw [Nat.one_mul], by rw [Nat.one_mul, List.take_length]; simp [flat]⟩
 have GL : Hid (g < w.heap.size) := (Array.getElem?_eq_some_iff.1 h).1
 rw [← hcs]
 clear hcs h
 obtain ⟨i0, hi0, hz0, hz1, hz2⟩ := info_parts info174
 have n1 : (1 * n / 18446744073709551616 : Nat) = 0 := by omega
 have n2 : (1 * n % 18446744073709551616 : Nat) = n := by omega
 have BM := Try.bits_Mul 1 n (by omega) (by omega) w
 rw [n1, n2] at BM
 have BM := Lib.hid BM
 clear n1 n2
 have c1 : IntKind.u64.wrap (1 : Int) = 1 := by rw [IntKind.wrap_u64]; omega
 have c2 : IntKind.u64.wrap ((n : Nat) : Int) = (n : Int) := by rw [IntKind.wrap_u64]; omega
 have c3 : IntKind.i64.wrap ((n : Nat) : Int) = (n : Int) := by rw [IntKind.wrap_i64]; omega
 go_enter Try.func43, Try.ntmps43
 go_upto_region 6 with (go_at_call 62; refine BM.out.mono ?_; rintro e w9 ⟨rfl, hw⟩; rw [hw])
 go_upto_region 7 with (at_make; refine wpList_make_full _ rfl _ _ 93 rfl 0 76 i0 (.agg #[.bool false, .slice none 0 0, .slice none 0 0, .bool false, .slice none 0 0, .slice none 0 0]) 6 Try.underlying93 hi0 hz0 hz1 .i64 .i64 _ _ n rfl rfl (by omega) (by omega) (by rw [hz2]; omega) (by unfold maxLen; omega) (Nat.zero_le _) ?_; intro w1 hown1 hg1; have OW := Lib.hid hown1; have B1 := Lib.hid (below_grown hg1); clear hown1 hg1)
 obtain ⟨g2, hg2⟩ : ∃ g2, w.heap.size = g2 := ⟨_, rfl⟩
 have L0 : Hid (Laid w1 g2 76 cs n 0) := by
  obtain ⟨hl, hv⟩ := OW.out
  rcases hv with ⟨hv, _⟩ | ⟨g', cap, cur, hv, _, hgg, _, _, hcs, ht⟩
  ·simp at hv
  ·simp only [Value.slice.injEq, Option.some.injEq, Addr.mk.injEq] at hv
   obtain ⟨⟨e1, _⟩, _, e2⟩ := hv
   subst e2
   refine ⟨cur.toList, by rw [← hg2, e1]; exact hgg, by rw [CL.out]; simpa using hcs, by simp [flat]⟩
 have S1 := Lib.hid (SRC.out.later B1.out GL.out)
 have GE : Hid (w.heap.size ≤ g2) := Nat.le_of_eq hg2
 clear OW
 rw [hg2]
 obtain ⟨m0, hm0⟩ : ∃ m0, Nat.min 1 n = m0 := ⟨_, rfl⟩
 have m0n : m0 ≤ n := by rw [← hm0]; exact Nat.min_le_right _ _
 have m01 : m0 ≤ 1 := by rw [← hm0]; exact Nat.min_le_left _ _
 have mpos : 0 < n → 0 < m0 := fun h => by rw [← hm0]; exact Nat.lt_min.2 ⟨by omega, h⟩
 obtain ⟨cur, c1', c2', c3'⟩ := L0.out
 have C1 := Lib.hid c1'; have C2 := Lib.hid c2'; have C3 := Lib.hid c3'; have GR := Lib.hid (Below.refl w.heap.size w)
 have F0 : Hid (0 + (flat cs m0).length ≤ cur.length) := by show _ ≤ _; rw [flat_len, C2.out, Nat.zero_add]; exact Nat.mul_le_mul_right _ m0n
 have FO := Lib.hid (flat_one cs CO.out m0)
 have FL : Hid ((flat cs m0).length = m0 * 6) := by show _ = _; rw [flat_len, CL.out]
 have SR := Lib.hid (S1.out.src m01)
 clear c1' c2' c3' hg2
 go_upto_region 8 with (refine wpList_copy_wide rfl (.tmp 31) (.tmp 32) 93 93 rfl 76 6 Try.underlying93 hsz174 g2 0 n n ⟨g, 0, none⟩ 1 1 m0 rfl rfl hm0 cur 76 C1.out (flat cs m0) FL.out SR.out F0.out FO.out w.heap.size w B1.out GE.out ?_; intro w2 hg2' hb2 hs2; have HG2 := hg2'; have B2 := Lib.hid hb2; clear hg2' hb2 hs2)
 have L2 : Hid (Laid w2 g2 76 cs n m0) := by
  have e := laid_next (k := 0) (m := m0) C2.out C3.out (by omega)
  rw [Nat.zero_mul, Nat.zero_add] at e
  exact ⟨_, HG2.out, e⟩
 clear HG2 F0 FO FL SR C1 C2 C3 L0 S1 B1 GR hm0
 go_loopw [8] (fun v wr => ∃ k : Nat, k ≤ n ∧ (0 < n → 0 < k) ∧ v = .int .i64 (k : Int) ∧ Laid wr g2 76 cs n k ∧ Below w.heap.size w wr) (fun v _ => n - (intOf v).toNat)
 case atStart => exact ⟨m0, m0n, mpos, rfl, L2.out, B2.out⟩
 case round =>
  obtain ⟨k, hk, kpos, rfl, hL, hB⟩ := hrel
  have L3 := Lib.hid hL; have B3 := Lib.hid hB
  clear L2 B2 hL hB mpos m0n m01
  by_cases hlt : k < n
  ·have kp := kpos (by omega)
   obtain ⟨m, hm⟩ : ∃ m, Nat.min k (n - k) = m := ⟨_, rfl⟩
   have mk : m ≤ k := by rw [← hm]; exact Nat.min_le_left _ _
   have mn : k + m ≤ n := by have : m ≤ n - k := (by rw [← hm]; exact Nat.min_le_right _ _); omega
   have mp : 0 < m := by rw [← hm]; exact Nat.lt_min.2 ⟨kp, by omega⟩
   obtain ⟨cur, c1', c2', c3'⟩ := L3.out
   have C1 := Lib.hid c1'; have C2 := Lib.hid c2'; have C3 := Lib.hid c3'
   have F0 : Hid (k * 6 + (flat cs m).length ≤ cur.length) := by
    show _ ≤ _
    rw [flat_len, C2.out, CL.out, ← Nat.add_mul]; exact Nat.mul_le_mul_right _ mn
   have FO := Lib.hid (flat_one cs CO.out m)
   have FL : Hid ((flat cs m).length = m * 6) := by show _ = _; rw [flat_len, CL.out]
   have SR := Lib.hid (L3.out.src mk)
   clear c1' c2' c3'
   have k0 : (0 : Int) ≤ (k : Int) := by omega
   have k1 : (k : Int) ≤ (n : Int) := by omega
   go_upto_region 9 with fail
   have ne : ¬ (n = k) := by omega
   have wk : IntKind.i64.wrap ((k : Int) + (m : Int)) = ((k + m : Nat) : Int) := by rw [IntKind.wrap_i64]; omega
   go_region_law (refine step_copy_wide (by rfl) (.tmp 41) (.tmp 44) 93 93 (by rfl) 76 6 Try.underlying93 hsz174 g2 (k * 6) (n - k) (n - k) ⟨g2, 0, none⟩ k n m (by go_simp) (by go_simp) hm cur 76 C1.out (flat cs m) FL.out SR.out F0.out FO.out w.heap.size w B3.out.drew GE.out ?_; intro w4 hg4 hb4 hs4; have HG4 := hg4; have B4 := Lib.hid hb4; clear hg4 hb4 hs4)
   have L4 : Hid (Laid w4 g2 76 cs n (k + m)) := by
    have e := laid_next (k := k) (m := m) C2.out C3.out mn
    rw [CL.out] at e
    exact ⟨_, HG4.out, by rw [CL.out]; exact e.1, by rw [CL.out]; exact e.2⟩
   simp only [Act.put, List.getElem_toArray, List.getElem_cons_zero, List.getElem_cons_succ, List.setIfInBounds_toArray, List.set_cons_zero, List.set_cons_succ, wk]
   go_roundw
   case rel => exact ⟨_, _, _, _, _, _, _, _, _, _, _, _, _, _, ⟨k + m, mn, fun _ => by omega, by rw [Int.natCast_add], L4.out, B4.out⟩, rfl⟩
   case measure => simp [intOf]; omega
  ·obtain rfl : n = k := by omega
   go_wp2_with fail
   go_ret
   exact ⟨g2, rfl, L3.out, GE.out, B3.out⟩
theorem info25 : (Try.prog.info? 26).map (fun i => (i.zero, i.size, i.bytes)) = some (some (.agg #[.bool false, .slice none 0 0, .slice none 0 0]), 3, 56) := by kernel_rfl
theorem hsz25 : (Try.prog.info? 26).map (·.size) = some 3 := by kernel_rfl
theorem repN_any {w : World} {g n : Nat} {M : Nw} (h : NQ w g M) (hn : n ≤ 200) :
  Calls Try.prog 46 #[.slice (some ⟨g, 0, none⟩) 1 1, .int .i64 (n : Int)] w fun e w' => ∃ g2, e = .returned (.slice (some ⟨g2, 0, none⟩) n n) ∧ Laid w' g2 26 (M.cs) n n ∧ w.heap.size ≤ g2 ∧ Below w.heap.size w w' := by
 obtain ⟨cs, hcs⟩ : ∃ cs : List Value, cs = M.cs := ⟨_, rfl⟩
 have CL : Hid (cs.length = 3) := by show _ = _; rw [hcs]; rfl
 have CO : Hid (∀ v ∈ cs, v.oneCell' = true) := by
  show ∀ v ∈ cs, _
  rw [hcs]
  intro v hv
  simp [Nw.cs] at hv
  rcases hv with rfl | rfl | rfl <;> rfl
 have SRC : Hid (Laid w g 26 cs 1 1) := ⟨cs, by rw [hcs]; exact h, by rw [Nat.one_mul], by rw [Nat.one_mul, List.take_length]; simp [flat]⟩
 have GL : Hid (g < w.heap.size) := (Array.getElem?_eq_some_iff.1 h).1
 rw [← hcs]
 clear hcs h
 obtain ⟨i0, hi0, hz0, hz1, hz2⟩ := info_parts info25
 have n1 : (1 * n / 18446744073709551616 : Nat) = 0 := by omega
 have n2 : (1 * n % 18446744073709551616 : Nat) = n := by omega
 have BM := Try.bits_Mul 1 n (by omega) (by omega) w
 rw [n1, n2] at BM
 have BM := Lib.hid BM
 clear n1 n2
 have c1 : IntKind.u64.wrap (1 : Int) = 1 := by rw [IntKind.wrap_u64]; omega
 have c2 : IntKind.u64.wrap ((n : Nat) : Int) = (n : Int) := by rw [IntKind.wrap_u64]; omega
 have c3 : IntKind.i64.wrap ((n : Nat) : Int) = (n : Int) := by rw [IntKind.wrap_i64]; omega
 go_enter Try.func46, Try.ntmps46
 go_upto_region 6 with (go_at_call 62; refine BM.out.mono ?_; rintro e w9 ⟨rfl, hw⟩; rw [hw])
 go_upto_region 7 with (at_make; refine wpList_make_full _ rfl _ _ 59 rfl 0 26 i0 (.agg #[.bool false, .slice none 0 0, .slice none 0 0]) 3 Try.underlying59 hi0 hz0 hz1 .i64 .i64 _ _ n rfl rfl (by omega) (by omega) (by rw [hz2]; omega) (by unfold maxLen; omega) (Nat.zero_le _) ?_; intro w1 hown1 hg1; have OW := Lib.hid hown1; have B1 := Lib.hid (below_grown hg1); clear hown1 hg1)
 obtain ⟨g2, hg2⟩ : ∃ g2, w.heap.size = g2 := ⟨_, rfl⟩
 have L0 : Hid (Laid w1 g2 26 cs n 0) := by
  obtain ⟨hl, hv⟩ := OW.out
  rcases hv with ⟨hv, _⟩ | ⟨g', cap, cur, hv, _, hgg, _, _, hcs, ht⟩
  ·simp at hv
  ·simp only [Value.slice.injEq, Option.some.injEq, Addr.mk.injEq] at hv
   obtain ⟨⟨e1, _⟩, _, e2⟩ := hv
   subst e2
   refine ⟨cur.toList, by rw [← hg2, e1]; exact hgg, by rw [CL.out]; simpa using hcs, by simp [flat]⟩
 have S1 := Lib.hid (SRC.out.later B1.out GL.out)
 have GE : Hid (w.heap.size ≤ g2) := Nat.le_of_eq hg2
 clear OW
 rw [hg2]
 obtain ⟨m0, hm0⟩ : ∃ m0, Nat.min 1 n = m0 := ⟨_, rfl⟩
 have m0n : m0 ≤ n := by rw [← hm0]; exact Nat.min_le_right _ _
 have m01 : m0 ≤ 1 := by rw [← hm0]; exact Nat.min_le_left _ _
 have mpos : 0 < n → 0 < m0 := fun h => by rw [← hm0]; exact Nat.lt_min.2 ⟨by omega, h⟩
 obtain ⟨cur, c1', c2', c3'⟩ := L0.out
 have C1 := Lib.hid c1'; have C2 := Lib.hid c2'; have C3 := Lib.hid c3'; have GR := Lib.hid (Below.refl w.heap.size w)
 have F0 : Hid (0 + (flat cs m0).length ≤ cur.length) := by show _ ≤ _; rw [flat_len, C2.out, Nat.zero_add]; exact Nat.mul_le_mul_right _ m0n
 have FO := Lib.hid (flat_one cs CO.out m0)
 have FL : Hid ((flat cs m0).length = m0 * 3) := by show _ = _; rw [flat_len, CL.out]
 have SR := Lib.hid (S1.out.src m01)
 clear c1' c2' c3' hg2
 go_upto_region 8 with (refine wpList_copy_wide rfl (.tmp 31) (.tmp 32) 59 59 rfl 26 3 Try.underlying59 hsz25 g2 0 n n ⟨g, 0, none⟩ 1 1 m0 rfl rfl hm0 cur 26 C1.out (flat cs m0) FL.out SR.out F0.out FO.out w.heap.size w B1.out GE.out ?_; intro w2 hg2' hb2 hs2; have HG2 := hg2'; have B2 := Lib.hid hb2; clear hg2' hb2 hs2)
 have L2 : Hid (Laid w2 g2 26 cs n m0) := by
  have e := laid_next (k := 0) (m := m0) C2.out C3.out (by omega)
  rw [Nat.zero_mul, Nat.zero_add] at e
  exact ⟨_, HG2.out, e⟩
 clear HG2 F0 FO FL SR C1 C2 C3 L0 S1 B1 GR hm0
 go_loopw [8] (fun v wr => ∃ k : Nat, k ≤ n ∧ (0 < n → 0 < k) ∧ v = .int .i64 (k : Int) ∧ Laid wr g2 26 cs n k ∧ Below w.heap.size w wr) (fun v _ => n - (intOf v).toNat)
 case atStart => exact ⟨m0, m0n, mpos, rfl, L2.out, B2.out⟩
 case round =>
  obtain ⟨k, hk, kpos, rfl, hL, hB⟩ := hrel
  have L3 := Lib.hid hL; have B3 := Lib.hid hB
  clear L2 B2 hL hB mpos m0n m01
  by_cases hlt : k < n
  ·have kp := kpos (by omega)
   obtain ⟨m, hm⟩ : ∃ m, Nat.min k (n - k) = m := ⟨_, rfl⟩
   have mk : m ≤ k := by rw [← hm]; exact Nat.min_le_left _ _
   have mn : k + m ≤ n := by have : m ≤ n - k := (by rw [← hm]; exact Nat.min_le_right _ _); omega
   have mp : 0 < m := by rw [← hm]; exact Nat.lt_min.2 ⟨kp, by omega⟩
   obtain ⟨cur, c1', c2', c3'⟩ := L3.out
   have C1 := Lib.hid c1'; have C2 := Lib.hid c2'; have C3 := Lib.hid c3'
   have F0 : Hid (k * 3 + (flat cs m).length ≤ cur.length) := by
    show _ ≤ _
    rw [flat_len, C2.out, CL.out, ← Nat.add_mul]; exact Nat.mul_le_mul_right _ mn
   have FO := Lib.hid (flat_one cs CO.out m)
   have FL : Hid ((flat cs m).length = m * 3) := by show _ = _; rw [flat_len, CL.out]
   have SR := Lib.hid (L3.out.src mk)
   clear c1' c2' c3'
   have k0 : (0 : Int) ≤ (k : Int) := by omega
   have k1 : (k : Int) ≤ (n : Int) := by omega
   go_upto_region 9 with fail
   have ne : ¬ (n = k) := by omega
   have wk : IntKind.i64.wrap ((k : Int) + (m : Int)) = ((k + m : Nat) : Int) := by rw [IntKind.wrap_i64]; omega
   go_region_law (refine step_copy_wide (by rfl) (.tmp 41) (.tmp 44) 59 59 (by rfl) 26 3 Try.underlying59 hsz25 g2 (k * 3) (n - k) (n - k) ⟨g2, 0, none⟩ k n m (by go_simp) (by go_simp) hm cur 26 C1.out (flat cs m) FL.out SR.out F0.out FO.out w.heap.size w B3.out.drew GE.out ?_; intro w4 hg4 hb4 hs4; have HG4 := hg4; have B4 := Lib.hid hb4; clear hg4 hb4 hs4)
   have L4 : Hid (Laid w4 g2 26 cs n (k + m)) := by
    have e := laid_next (k := k) (m := m) C2.out C3.out mn
    rw [CL.out] at e
    exact ⟨_, HG4.out, by rw [CL.out]; exact e.1, by rw [CL.out]; exact e.2⟩
   simp only [Act.put, List.getElem_toArray, List.getElem_cons_zero, List.getElem_cons_succ, List.setIfInBounds_toArray, List.set_cons_zero, List.set_cons_succ, wk]
   go_roundw
   case rel => exact ⟨_, _, _, _, _, _, _, _, _, _, _, _, _, _, ⟨k + m, mn, fun _ => by omega, by rw [Int.natCast_add], L4.out, B4.out⟩, rfl⟩
   case measure => simp [intOf]; omega
  ·obtain rfl : n = k := by omega
   go_wp2_with fail
   go_ret
   exact ⟨g2, rfl, L3.out, GE.out, B3.out⟩
end Go.Proofs.Ytijdglogadnbcaa
namespace Go.Proofs.Ytijdglogadnbcaa
open Go.RowKit Nt
theorem vplain_raw (w : World) (M : Nw) : Calls Try.prog 44 #[.agg #[.bool M.s, .slice M.a M.n M.c, .slice M.b M.m M.d]] w fun e w' => ∃ S : Nw, e = .returned (.agg #[.bool M.s, .slice M.a M.n M.c, .slice M.b M.m M.d, .bool S.s, .slice S.a S.n S.c, .slice S.b S.m S.d]) ∧ RA w' 0 S ∧ Below w.heap.size w w' := by
 have B0 : Hid (Below w.heap.size w ((w.alloc (.cells #[.bool M.s, .slice M.a M.n M.c, .slice M.b M.m M.d] 26)).alloc (.cells #[.bool false, .slice none 0 0, .slice none 0 0, .bool false, .slice none 0 0, .slice none 0 0] 76))) := (below_new _ _).alloc (by simp) _
 have X1 : Hid (NQ ((w.alloc (.cells #[.bool M.s, .slice M.a M.n M.c, .slice M.b M.m M.d] 26)).alloc (.cells #[.bool false, .slice none 0 0, .slice none 0 0, .bool false, .slice none 0 0, .slice none 0 0] 76)) w.heap.size M) := by
  show NQ _ _ _
  unfold NQ
  rw [Below.heap_alloc _ _ _ (by simp)]; exact heap_alloc_new w _
 have X3 : Hid (VB ((w.alloc (.cells #[.bool M.s, .slice M.a M.n M.c, .slice M.b M.m M.d] 26)).alloc (.cells #[.bool false, .slice none 0 0, .slice none 0 0, .bool false, .slice none 0 0, .slice none 0 0] 76)) (w.heap.size + 1) Nw.zero Nw.zero) := by
  have := heap_alloc_new (w.alloc (.cells #[.bool M.s, .slice M.a M.n M.c, .slice M.b M.m M.d] 26)) (.cells #[.bool false, .slice none 0 0, .slice none 0 0, .bool false, .slice none 0 0, .slice none 0 0] 76)
  rwa [show (w.alloc (.cells #[.bool M.s, .slice M.a M.n M.c, .slice M.b M.m M.d] 26)).heap.size = w.heap.size + 1 from by simp] at this
 go_enter Try.func44, Try.ntmps44
 go_upto_region 1 with fail
 generalize (w.alloc (.cells #[.bool M.s, .slice M.a M.n M.c, .slice M.b M.m M.d] 26)).alloc (.cells #[.bool false, .slice none 0 0, .slice none 0 0, .bool false, .slice none 0 0, .slice none 0 0] 76) = W0 at *
 obtain ⟨u0, u1, u2, _⟩ := X1.out.reads
 have N1 := Lib.hid (rint_any 0 (by omega) (by omega) W0.drew)
 go_region_held3 (fun W => W.cell? ⟨w.heap.size, 0, none⟩ = some (.bool M.s) ∧ W.cell? ⟨w.heap.size, 1, none⟩ = some (.slice M.a M.n M.c) ∧ W.cell? ⟨w.heap.size, 2, none⟩ = some (.slice M.b M.m M.d))
  (first
   | with_reducible exact ⟨u0, u1, u2⟩
   | with_reducible exact ⟨y0, y1, y2⟩
   | exact nq3 (H1.out.k6 (by omega) _ _ _ _ _ _)
   | go_keep)
  ((go_at_call 19; ((with_reducible refine N1.out.mono ?_)); go_loud (rintro e w6 ⟨s6, a6, n6, c6, b6, m6, d6, rfl, L6, B6⟩; have B6 := undrew B6; have K1 : NQ w6 w.heap.size M := X1.out.later B6 X1.out.lt; have K3 : VB w6 (w.heap.size + 1) Nw.zero Nw.zero := X3.out.later B6 X3.out.lt; obtain ⟨y0, y1, y2, _⟩ := K1.reads; obtain ⟨z0, z1, z2, z3, z4, z5, f⟩ := K3.reads; have f0 := f 0; have f1 := f 1; have f2 := f 2; have f3 := f 3; have f4 := f 4; have f5 := f 5; have lt6 := K3.lt; clear f; have K3 := Lib.hid K3; have L6 := Lib.hid L6; have B06 := Lib.hid (Below.over B0.out B0.out.size B6); have H1 := Lib.hid K1; clear B6)))
 go_wp2_with fail
 exact bodyPost_ret (v := .agg #[.bool M.s, .slice M.a M.n M.c, .slice M.b M.m M.d, .bool s6, .slice a6 n6 c6, .slice b6 m6 d6]) (by simp [results, Try.results44, go_sem, z0, z1, z2, z3, z4, z5]) rfl ⟨⟨s6, a6, n6, c6, b6, m6, d6⟩, rfl, RA.limb (N := ⟨s6, a6, n6, c6, b6, m6, d6⟩) L6.out (K3.out.limb (K3.out.wr (M := M) (S := ⟨s6, a6, n6, c6, b6, m6, d6⟩))), (K3.out.wr (M := M) (S := ⟨s6, a6, n6, c6, b6, m6, d6⟩)).bel _ _ (by omega) B06.out⟩
end Go.Proofs.Ytijdglogadnbcaa
