/- Looking for values in all ranges: what a step does, and that the steps end. No program. -/
import Derived.Test.YtijdglogadnbcaaZ13
set_option linter.unusedVariables false
set_option linter.unusedSimpArgs false
set_option maxRecDepth 100000
set_option maxHeartbeats 40000000
namespace Go.Proofs.Ytijdglogadnbcaa.Bl
open Go.RowKit Nt
theorem V.ext' {a b : V} (h1 : a.m = b.m) (h2 : a.s = b.s) : a = b := by cases a; cases b; simp only at h1 h2; rw [h1, h2]
theorem Pb.lo_iff {P : Pb} {b : Nat} : P.lo b = true ↔ ∃ l, P.low b = some l ∧ (P.now b).lt l := by
 unfold Pb.lo
 cases h : P.low b with
 | none => simp
 | some l => simp [vcmp_lt]
theorem Pb.hi_iff {P : Pb} {b : Nat} : P.hi b = true ↔ ∃ l, P.high b = some l ∧ l.lt (P.now b) := by
 unfold Pb.hi
 cases h : P.high b with
 | none => simp
 | some l => simp [vcmp_gt]
theorem Pb.in_iff {P : Pb} {b : Nat} : inR P.low P.high b (P.now b) ↔ P.lo b = false ∧ P.hi b = false := by
 have h1 := P.lo_iff (b := b)
 have h2 := P.hi_iff (b := b)
 constructor
 ·intro h
  constructor
  ·cases e : P.lo b with
   | false => rfl
   | true =>
    obtain ⟨l, a, c⟩ := h1.1 e
    exact absurd (V.lt_of_lt_of_le c (h.1 l a)) (V.lt_irrefl _)
  ·cases e : P.hi b with
   | false => rfl
   | true =>
    obtain ⟨l, a, c⟩ := h2.1 e
    exact absurd (V.lt_of_lt_of_le c (h.2 l a)) (V.lt_irrefl _)
 ·rintro ⟨a, b'⟩
  refine ⟨fun l hl => ?_, fun l hl => ?_⟩
  ·exact V.not_lt.1 fun c => by rw [h1.2 ⟨l, hl, c⟩] at a; exact absurd a (by simp)
  ·exact V.not_lt.1 fun c => by rw [h2.2 ⟨l, hl, c⟩] at b'; exact absurd b' (by simp)
/-- The broken row. -/
def Pb.BrkI (P : Pb) (i : Nat) : Option (Nat × Bool) → Prop
 | none => ∀ k, k < i → P.lo (P.basic k) = false ∧ P.hi (P.basic k) = false
 | some (r, up) => r < i ∧ (if up then P.lo (P.basic r) = true else P.hi (P.basic r) = true) ∧ ∀ k, k < i → P.basic k < P.basic r → P.lo (P.basic k) = false ∧ P.hi (P.basic k) = false
theorem Pb.brkT_prop (P : Pb) : ∀ i, P.BrkI i (P.brkT i)
 | 0 => fun k hk => by omega
 | i + 1 => by
  have ih := P.brkT_prop i
  unfold Pb.brkT
  generalize P.brkT i = res at ih ⊢
  cases res with
  | none =>
   simp only [Pb.past, Bool.false_eq_true, if_false]
   split
   ·rename_i h; exact ⟨by omega, by rw [if_pos rfl]; exact h, fun k hk hlt => by
     rcases Nat.lt_succ_iff_lt_or_eq.1 hk with q | q
     ·exact ih k q
     ·subst q; omega⟩
   ·rename_i h
    split
    ·rename_i h'; exact ⟨by omega, by rw [if_neg (by simp)]; exact h', fun k hk hlt => by
      rcases Nat.lt_succ_iff_lt_or_eq.1 hk with q | q
      ·exact ih k q
      ·subst q; omega⟩
    ·rename_i h'
     intro k hk
     rcases Nat.lt_succ_iff_lt_or_eq.1 hk with q | q
     ·exact ih k q
     ·subst q; simp only [Bool.not_eq_true] at h h'; exact ⟨h, h'⟩
  | some x =>
   obtain ⟨r, up⟩ := x
   obtain ⟨h1, h2, h3⟩ := ih
   by_cases hp : P.basic r < P.basic i
   ·rw [if_pos (show P.past i (some (r, up)) = true from decide_eq_true hp)]
    exact ⟨by omega, h2, fun k hk hlt => by
     rcases Nat.lt_succ_iff_lt_or_eq.1 hk with q | q
     ·exact h3 k q hlt
     ·subst q; omega⟩
   ·rw [if_neg (show ¬ P.past i (some (r, up)) = true from fun e => hp (of_decide_eq_true e))]
    by_cases h : P.lo (P.basic i) = true
    ·rw [if_pos h]
     exact ⟨by omega, by rw [if_pos rfl]; exact h, fun k hk hlt => by
      rcases Nat.lt_succ_iff_lt_or_eq.1 hk with q | q
      ·exact h3 k q (by omega)
      ·subst q; omega⟩
    ·rw [if_neg h]
     by_cases h' : P.hi (P.basic i) = true
     ·rw [if_pos h']
      exact ⟨by omega, by rw [if_neg (by simp)]; exact h', fun k hk hlt => by
       rcases Nat.lt_succ_iff_lt_or_eq.1 hk with q | q
       ·exact h3 k q (by omega)
       ·subst q; omega⟩
     ·rw [if_neg h']
      refine ⟨by omega, h2, fun k hk hlt => ?_⟩
      rcases Nat.lt_succ_iff_lt_or_eq.1 hk with q | q
      ·exact h3 k q hlt
      ·subst q; simp only [Bool.not_eq_true] at h h'; exact ⟨h, h'⟩
/-- The helping column. -/
def Pb.HlpI (P : Pb) (r : Nat) (up : Bool) (i : Nat) : Option Nat → Prop
 | none => ∀ k, k < i → P.helps r k up = false
 | some c => c < i ∧ P.helps r c up = true ∧ ∀ k, k < i → P.helps r k up = true → P.free c ≤ P.free k
theorem Pb.hlpT_prop (P : Pb) (r : Nat) (up : Bool) : ∀ i, P.HlpI r up i (P.hlpT r up i)
 | 0 => fun k hk => by omega
 | i + 1 => by
  have ih := P.hlpT_prop r up i
  unfold Pb.hlpT
  generalize P.hlpT r up i = res at ih ⊢
  by_cases h : P.helps r i up = true
  ·cases res with
   | none =>
    simp only [h, Pb.better, Bool.and_self, if_true]
    exact ⟨by omega, h, fun k hk hh => by
     rcases Nat.lt_succ_iff_lt_or_eq.1 hk with q | q
     ·have := ih k q; rw [hh] at this; exact absurd this (by simp)
     ·subst q; exact Nat.le_refl _⟩
   | some c =>
    obtain ⟨h1, h2, h3⟩ := ih
    simp only [h, Pb.better, Bool.true_and]
    split
    ·rename_i hp
     have hp := of_decide_eq_true hp
     exact ⟨by omega, h, fun k hk hh => by
      rcases Nat.lt_succ_iff_lt_or_eq.1 hk with q | q
      ·exact Nat.le_of_lt (Nat.lt_of_lt_of_le hp (h3 k q hh))
      ·subst q; exact Nat.le_refl _⟩
    ·rename_i hp
     have hp : ¬ P.free i < P.free c := fun e => hp (decide_eq_true e)
     exact ⟨by omega, h2, fun k hk hh => by
      rcases Nat.lt_succ_iff_lt_or_eq.1 hk with q | q
      ·exact h3 k q hh
      ·subst q; omega⟩
  ·have h : P.helps r i up = false := by simpa using h
   rw [h, Bool.false_and, if_neg (by simp)]
   cases res with
   | none =>
    intro k hk
    rcases Nat.lt_succ_iff_lt_or_eq.1 hk with q | q
    ·exact ih k q
    ·subst q; exact h
   | some c =>
    obtain ⟨h1, h2, h3⟩ := ih
    exact ⟨by omega, h2, fun k hk hh => by
     rcases Nat.lt_succ_iff_lt_or_eq.1 hk with q | q
     ·exact h3 k q hh
     ·subst q; rw [h] at hh; exact absurd hh (by simp)⟩
theorem Pb.rises_iff {P : Pb} {v : Nat} : P.rises v = true ↔ rise P.high v (P.now v) := by
 unfold Pb.rises rise
 cases h : P.high v with
 | none => simp
 | some u => simp [vcmp_lt]
theorem Pb.falls_iff {P : Pb} {v : Nat} : P.falls v = true ↔ fall P.low v (P.now v) := by
 unfold Pb.falls fall
 cases h : P.low v with
 | none => simp
 | some u => simp [vcmp_gt]
theorem Pb.dir_pos {P : Pb} {r k : Nat} {up : Bool} : 0 < P.dir r k up ↔ 0 < (if up then 1 else -1 : Rat) * P.T r k := by
 unfold Pb.dir
 cases up with
 | true => simp only [if_true]; rw [rsgn_pos]; grind
 | false =>
  simp only [Bool.false_eq_true, if_false]
  have := @rsgn_neg (P.T r k)
  constructor
  ·intro h; have := this.1 (by omega); grind
  ·intro h; have := this.2 (by grind); omega
theorem Pb.dir_neg {P : Pb} {r k : Nat} {up : Bool} : P.dir r k up < 0 ↔ (if up then 1 else -1 : Rat) * P.T r k < 0 := by
 unfold Pb.dir
 cases up with
 | true => simp only [if_true]; rw [rsgn_neg]; grind
 | false =>
  simp only [Bool.false_eq_true, if_false]
  have := @rsgn_pos (P.T r k)
  constructor
  ·intro h; have := this.1 (by omega); grind
  ·intro h; have := this.2 (by grind); omega
theorem Pb.helps_iff {P : Pb} {r k : Nat} {up : Bool} : P.helps r k up = true ↔
  (0 < (if up then 1 else -1 : Rat) * P.T r k ∧ rise P.high (P.free k) (P.now (P.free k))) ∨ ((if up then 1 else -1 : Rat) * P.T r k < 0 ∧ fall P.low (P.free k) (P.now (P.free k))) := by
 unfold Pb.helps
 rw [Bool.or_eq_true, Bool.and_eq_true, Bool.and_eq_true, decide_eq_true_iff, decide_eq_true_iff, Pb.rises_iff, Pb.falls_iff, Pb.dir_pos, Pb.dir_neg]
theorem Pb.helps_nz {P : Pb} {r k : Nat} {up : Bool} (h : P.helps r k up = true) : P.T r k ≠ 0 := by
 intro e
 rw [Pb.helps_iff, e] at h
 rcases h with ⟨h, _⟩ | ⟨h, _⟩ <;> grind
/-- A move. -/
theorem Pb.mvT_basic {P : Pb} (h : P.Pl) {c : Nat} (hc : c < P.n) (b : V) : ∀ i, i ≤ P.m → ∀ k, k < i → P.mvT c b i (P.basic k) = (P.now (P.basic k)).add (V.mul (P.T k c) b)
 | 0, _, k, hk => by omega
 | i + 1, hi, k, hk => by
  simp only [Pb.mvT]
  rcases Nat.lt_succ_iff_lt_or_eq.1 hk with q | q
  ·have ih := Pb.mvT_basic h hc b i (by omega) k q
   split
   ·exact ih
   ·simp only; rw [if_neg (fun e => by have := h.binj k i (by omega) (by omega) e; omega)]; exact ih
  ·subst q
   have hb := Pb.mvT_high h hc b k (by omega) k (Nat.le_refl _) (by omega)
   split
   ·rename_i e
    rw [hb, e]; unfold V.add V.mul; simp only; refine V.ext' ?_ ?_ <;> simp only <;> grind
   ·simp only; rw [if_pos trivial, hb]
theorem Pb.mvT_free {P : Pb} (h : P.Pl) {c : Nat} (hc : c < P.n) (b : V) {k : Nat} (hk : k < P.n) : ∀ i, i ≤ P.m → P.mvT c b i (P.free k) = if k = c then (P.now (P.free k)).add b else P.now (P.free k)
 | 0, _ => by
  simp only [Pb.mvT]
  by_cases e : k = c
  ·subst e; simp
  ·rw [if_neg e, if_neg fun q => e (h.finj k c hk hc q)]
 | i + 1, hi => by
  have ih := Pb.mvT_free h hc b hk i (by omega)
  simp only [Pb.mvT]
  split
  ·exact ih
  ·simp only; rw [if_neg (fun e => h.disj i k (by omega) hk e.symm)]; exact ih
theorem Pb.mv_pl {P : Pb} (h : P.Pl) (c : Nat) (b : V) : (P.mv c b).Pl := ⟨h.blt, h.flt, h.binj, h.finj, h.disj, h.cover⟩
theorem Pb.mv_tw {P : Pb} (h : P.Pl) {c : Nat} (hc : c < P.n) (b : V) (g : V → Rat) (ga : ∀ x y, g (x.add y) = g x + g y) (gm : ∀ q x, g (V.mul q x) = q * g x) (ht : P.TW fun j => g (P.now j)) : P.TW fun j => g ((P.mv c b).now j) := by
 intro i hi
 show g (P.mvT c b P.m (P.basic i)) = sm P.n fun k => P.T i k * g (P.mvT c b P.m (P.free k))
 rw [Pb.mvT_basic h hc b P.m (Nat.le_refl _) i hi, ga, gm]
 have e : sm P.n (fun k => P.T i k * g (P.mvT c b P.m (P.free k))) = sm P.n fun k => P.T i k * g (P.now (P.free k)) + (if k = c then P.T i c * g b else 0) := by
  refine sm_congr fun k hk => ?_
  rw [Pb.mvT_free h hc b hk P.m (Nat.le_refl _)]
  by_cases q : k = c
  ·subst q; rw [if_pos rfl, if_pos rfl, ga]; grind
  ·rw [if_neg q, if_neg q]; grind
 rw [e, sm_add, sm_one (r := c) (f := fun k => if k = c then P.T i c * g b else 0) hc fun j _ hj => by simp [hj]]
 have := ht i hi
 simp only at this
 rw [this]; simp
theorem Pb.mv_tv {P : Pb} (h : P.Pl) {c : Nat} (hc : c < P.n) (b : V) (ht : P.TV P.now) : P.TV (P.mv c b).now :=
 ⟨Pb.mv_tw h hc b (fun x => x.m) (fun _ _ => rfl) (fun _ _ => rfl) ht.1, Pb.mv_tw h hc b (fun x => x.s) (fun _ _ => rfl) (fun _ _ => rfl) ht.2⟩
/-- What holds all along. -/
structure Pb.Ok (P : Pb) : Prop where
 pl : P.Pl
 tv : P.TV P.now
 inb : ∀ k, k < P.n → inR P.low P.high (P.free k) (P.now (P.free k))
 ord : ∀ v l h, P.low v = some l → P.high v = some h → l.le h
/-- The end that a broken row is brought to. -/
def Pb.goalEnd (P : Pb) (r : Nat) (up : Bool) : Option V := if up then P.low (P.basic r) else P.high (P.basic r)
/-- A step of Feasible. -/
def Pb.fst (P : Pb) (r c : Nat) (b : V) : Pb := (P.mv c (V.mul (1 / P.T r c) (b.sub (P.now (P.basic r))))).pivot r c
structure FSt (P : Pb) (r : Nat) (up : Bool) (c : Nat) (b : V) : Prop where
 ok : P.Ok
 br : P.brk = some (r, up)
 hl : P.hlp r up = some c
 en : P.goalEnd r up = some b
theorem FSt.rm {P : Pb} {r : Nat} {up : Bool} {c : Nat} {b : V} (h : FSt P r up c b) : r < P.m := by
 have := P.brkT_prop P.m; have e := h.br; unfold Pb.brk at e; rw [e] at this; exact this.1
theorem FSt.cn {P : Pb} {r : Nat} {up : Bool} {c : Nat} {b : V} (h : FSt P r up c b) : c < P.n := by
 have := P.hlpT_prop r up P.n; have e := h.hl; unfold Pb.hlp at e; rw [e] at this; exact this.1
theorem FSt.he {P : Pb} {r : Nat} {up : Bool} {c : Nat} {b : V} (h : FSt P r up c b) : P.helps r c up = true := by
 have := P.hlpT_prop r up P.n; have e := h.hl; unfold Pb.hlp at e; rw [e] at this; exact this.2.1
theorem FSt.nz {P : Pb} {r : Nat} {up : Bool} {c : Nat} {b : V} (h : FSt P r up c b) : P.T r c ≠ 0 := Pb.helps_nz h.he
theorem FSt.viol {P : Pb} {r : Nat} {up : Bool} {c : Nat} {b : V} (h : FSt P r up c b) : if up then P.low (P.basic r) = some b ∧ (P.now (P.basic r)).lt b else P.high (P.basic r) = some b ∧ b.lt (P.now (P.basic r)) := by
 have := P.brkT_prop P.m; have e := h.br; unfold Pb.brk at e; rw [e] at this
 have t := this.2.1
 have e := h.en
 unfold Pb.goalEnd at e
 cases up with
 | true =>
  simp only [if_true] at t e ⊢
  obtain ⟨l, hl, hlt⟩ := Pb.lo_iff.1 t
  rw [hl] at e; cases e; exact ⟨hl, hlt⟩
 | false =>
  simp only [Bool.false_eq_true, if_false] at t e ⊢
  obtain ⟨l, hl, hlt⟩ := Pb.hi_iff.1 t
  rw [hl] at e; cases e; exact ⟨hl, hlt⟩
theorem FSt.first {P : Pb} {r : Nat} {up : Bool} {c : Nat} {b : V} (h : FSt P r up c b) {k : Nat} (hk : k < P.m) (hlt : P.basic k < P.basic r) : inR P.low P.high (P.basic k) (P.now (P.basic k)) := by
 have := P.brkT_prop P.m; have e := h.br; unfold Pb.brk at e; rw [e] at this
 exact Pb.in_iff.2 (this.2.2 k hk hlt)
theorem FSt.least {P : Pb} {r : Nat} {up : Bool} {c : Nat} {b : V} (h : FSt P r up c b) {k : Nat} (hk : k < P.n) (hh : P.helps r k up = true) : P.free c ≤ P.free k := by
 have := P.hlpT_prop r up P.n; have e := h.hl; unfold Pb.hlp at e; rw [e] at this; exact this.2.2 k hk hh
theorem FSt.now_out {P : Pb} {r : Nat} {up : Bool} {c : Nat} {b : V} (h : FSt P r up c b) : (P.fst r c b).now (P.basic r) = b := by
 show P.mvT c _ P.m (P.basic r) = b
 rw [Pb.mvT_basic h.ok.pl h.cn _ P.m (Nat.le_refl _) r h.rm]
 have z : P.T r c * (1 / P.T r c) = 1 := by have := h.nz; grind
 unfold V.add V.mul V.sub
 refine V.ext' ?_ ?_ <;> simp only <;> rw [← Rat.mul_assoc, z] <;> grind
theorem FSt.now_free {P : Pb} {r : Nat} {up : Bool} {c : Nat} {b : V} (h : FSt P r up c b) {k : Nat} (hk : k < P.n) (hne : k ≠ c) : (P.fst r c b).now (P.free k) = P.now (P.free k) := by
 show P.mvT c _ P.m (P.free k) = _
 rw [Pb.mvT_free h.ok.pl h.cn _ hk P.m (Nat.le_refl _), if_neg hne]
theorem FSt.next {P : Pb} {r : Nat} {up : Bool} {c : Nat} {b : V} (h : FSt P r up c b) : (P.fst r c b).Ok := by
 have mp := Pb.mv_pl h.ok.pl c (V.mul (1 / P.T r c) (b.sub (P.now (P.basic r))))
 refine ⟨mp.pivot h.rm h.cn, (Pb.pivot_tv mp h.rm h.cn h.nz _).1 (Pb.mv_tv h.ok.pl h.cn _ h.ok.tv), fun k hk => ?_, h.ok.ord⟩
 show inR P.low P.high (if k = c then P.basic r else P.free k) ((P.fst r c b).now (if k = c then P.basic r else P.free k))
 by_cases e : k = c
 ·rw [if_pos e, h.now_out]
  have v := h.viol
  cases up with
  | true =>
   simp only [if_true] at v
   exact ⟨fun l hl => by rw [v.1] at hl; cases hl; exact V.le_refl _, fun u hu => h.ok.ord _ _ _ v.1 hu⟩
  | false =>
   simp only [Bool.false_eq_true, if_false] at v
   exact ⟨fun l hl => h.ok.ord _ _ _ hl v.1, fun u hu => by rw [v.1] at hu; cases hu; exact V.le_refl _⟩
 ·rw [if_neg e, h.now_free hk e]; exact h.ok.inb k hk
theorem FSt.tv {P : Pb} {r : Nat} {up : Bool} {c : Nat} {b : V} (h : FSt P r up c b) (y : Nat → V) : P.TV y ↔ (P.fst r c b).TV y :=
 Pb.pivot_tv (Pb.mv_pl h.ok.pl c _) h.rm h.cn h.nz y
/-- A row as a sum over all variables. -/
def Pb.rowAll (P : Pb) (r j : Nat) : Rat := sm P.n fun k => if P.free k = j then P.T r k else 0
theorem rowAll_sum (N : Nat) (T : Nat → Rat) (f : Nat → Nat) (y : Nat → Rat) : ∀ n, (∀ k, k < n → f k < N) → sm N (fun j => sm n (fun k => if f k = j then T k else 0) * y j) = sm n fun k => T k * y (f k)
 | 0, _ => sm_zero fun j _ => by simp only [sm]; grind
 | n + 1, h => by
  have ih := rowAll_sum N T f y n fun k hk => h k (by omega)
  have e : sm N (fun j => sm (n + 1) (fun k => if f k = j then T k else 0) * y j) = sm N fun j => sm n (fun k => if f k = j then T k else 0) * y j + (if f n = j then T n else 0) * y j := sm_congr fun j _ => by simp only [sm]; grind
  rw [e, sm_add, ih, sm_one (r := f n) (f := fun j => (if f n = j then T n else 0) * y j) (h n (by omega)) fun j _ hj => by rw [if_neg fun q => hj q.symm]; grind]
  simp only [sm, if_true]
theorem Pb.rowAll_free {P : Pb} (h : P.Pl) (r : Nat) {k : Nat} (hk : k < P.n) : P.rowAll r (P.free k) = P.T r k := by
 unfold Pb.rowAll
 rw [sm_one (r := k) (f := fun i => if P.free i = P.free k then P.T r i else 0) hk fun j hj hne => by rw [if_neg fun q => hne (h.finj j k hj hk q)]]
 simp
theorem Pb.rowAll_nb {P : Pb} (r j : Nat) (h : P.rowAll r j ≠ 0) : P.nb j := by
 refine Classical.byContradiction fun hn => h ?_
 exact sm_zero fun k hk => by rw [if_neg fun q => hn ⟨k, hk, q⟩]
/-- A run of steps. -/
structure FRn (S : Nat → Pb) (r : Nat → Nat) (up : Nat → Bool) (c : Nat → Nat) (b : Nat → V) (L : Nat) : Prop where
 st : ∀ t, t < L → FSt (S t) (r t) (up t) (c t) (b t)
 nx : ∀ t, t < L → S (t + 1) = (S t).fst (r t) (c t) (b t)
 ok : (S 0).Ok
theorem FRn.same {S : Nat → Pb} {r : Nat → Nat} {up : Nat → Bool} {c : Nat → Nat} {b : Nat → V} {L : Nat} (h : FRn S r up c b L) : ∀ t, t ≤ L → (S t).n = (S 0).n ∧ (S t).m = (S 0).m ∧ (S t).low = (S 0).low ∧ (S t).high = (S 0).high ∧ (S t).Ok ∧ ∀ y, (S t).TV y ↔ (S 0).TV y
 | 0, _ => ⟨rfl, rfl, rfl, rfl, h.ok, fun _ => Iff.rfl⟩
 | t + 1, ht => by
  obtain ⟨a, b', d, e, f, g⟩ := h.same t (by omega)
  have st := h.st t (by omega)
  rw [h.nx t (by omega)]
  exact ⟨a, b', d, e, st.next, fun y => (st.tv y).symm.trans (g y)⟩
theorem FRn.mend {S : Nat → Pb} {r : Nat → Nat} {up : Nat → Bool} {c : Nat → Nat} {b : Nat → V} {L : Nat} (h : FRn S r up c b L) :
  Mend (fun t j => (S t).nb j) (fun t => (S t).free (c t)) (fun t => (S t).basic (r t)) (fun t j => (S t).rowAll (r t) j) (fun t => (S t).now) up (S 0).low (S 0).high ((S 0).n + (S 0).m) L where
 ex := by
  refine ⟨fun t ht => ⟨c t, (h.st t ht).cn, rfl⟩, fun t ht => (h.st t ht).ok.pl.nb_basic (h.st t ht).rm, fun t ht j => ?_⟩
  have st := h.st t ht
  rw [h.nx t ht]
  exact (Pb.mv_pl st.ok.pl (c t) _).nb_pivot st.rm st.cn j
 lt t ht := by
  have st := h.st t ht
  obtain ⟨a, b', _⟩ := h.same t (by omega)
  rw [← a, ← b']
  exact ⟨st.ok.pl.flt _ st.cn, st.ok.pl.blt _ st.rm⟩
 asup t ht j hj := Pb.rowAll_nb _ _ hj
 row t u ht hu := by
  have st := h.st t ht
  obtain ⟨a, b', _, _, _, tv⟩ := h.same t (by omega)
  obtain ⟨_, _, _, _, ok, tv'⟩ := h.same u hu
  have y := (tv _).2 ((tv' _).1 ok.tv)
  have fl : ∀ k, k < (S t).n → (S t).free k < (S 0).n + (S 0).m := fun k hk => by rw [← a, ← b']; exact st.ok.pl.flt k hk
  unfold vs
  refine V.ext' ?_ ?_
  ·simp only [Pb.rowAll]
   rw [rowAll_sum _ (fun k => (S t).T (r t) k) _ (fun j => ((S u).now j).m) _ fl]
   exact y.1 (r t) st.rm
  ·simp only [Pb.rowAll]
   rw [rowAll_sum _ (fun k => (S t).T (r t) k) _ (fun j => ((S u).now j).s) _ fl]
   exact y.2 (r t) st.rm
 inb t ht j hj := by
  obtain ⟨_, _, lo, hi, ok, _⟩ := h.same t ht
  obtain ⟨k, hk, rfl⟩ := hj
  rw [← lo, ← hi]; exact ok.inb k hk
 keep t ht j hj hne := by
  have st := h.st t ht
  obtain ⟨k, hk, rfl⟩ := hj
  rw [h.nx t ht]
  exact st.now_free hk fun e => hne (by rw [e])
 viol t ht := by
  have st := h.st t ht
  obtain ⟨_, _, lo, hi, _, _⟩ := h.same t (by omega)
  have v := st.viol
  have o := st.now_out
  rw [← h.nx t ht] at o
  rw [← lo, ← hi]
  cases e : up t with
  | true => rw [e] at v; simp only [if_true] at v ⊢; exact ⟨b t, v.1, v.2, o⟩
  | false => rw [e] at v; simp only [Bool.false_eq_true, if_false] at v ⊢; exact ⟨b t, v.1, v.2, o⟩
 first t ht j hj hn := by
  have st := h.st t ht
  obtain ⟨_, _, lo, hi, _, _⟩ := h.same t (by omega)
  rw [← lo, ← hi]
  rcases st.ok.pl.cover j (Nat.lt_trans hj (st.ok.pl.blt _ st.rm)) with ⟨k, hk, rfl⟩ | e
  ·exact st.first hk hj
  ·exact absurd e hn
 good t ht := by
  have st := h.st t ht
  obtain ⟨_, _, lo, hi, _, _⟩ := h.same t (by omega)
  rw [← lo, ← hi, Pb.rowAll_free st.ok.pl _ st.cn]
  exact Pb.helps_iff.1 st.he
 least t ht j hj hn := by
  have st := h.st t ht
  obtain ⟨_, _, lo, hi, _, _⟩ := h.same t (by omega)
  obtain ⟨k, hk, rfl⟩ := hn
  rw [← lo, ← hi, Pb.rowAll_free st.ok.pl _ hk]
  exact ⟨fun q => absurd (st.least hk (Pb.helps_iff.2 (Or.inl q))) (by omega), fun q => absurd (st.least hk (Pb.helps_iff.2 (Or.inr q))) (by omega)⟩
theorem Pb.tv_vs {P : Pb} {y : Nat → V} (h : P.TV y) {r : Nat} (hr : r < P.m) : y (P.basic r) = vs P.n (fun k => P.T r k) (fun k => y (P.free k)) :=
 V.ext' (h.1 r hr) (h.2 r hr)
/-- No column helps: there are no values in all ranges. -/
theorem Pb.stuck {P : Pb} (h : P.Ok) {r : Nat} {up : Bool} (hb : P.brk = some (r, up)) (hh : P.hlp r up = none) (y : Nat → V) (ty : P.TV y) (hy : ∀ v, v < P.n + P.m → inR P.low P.high v (y v)) : False := by
 have bp := P.brkT_prop P.m
 unfold Pb.brk at hb; rw [hb] at bp
 have hp := P.hlpT_prop r up P.n
 unfold Pb.hlp at hh; rw [hh] at hp
 obtain ⟨hr, hv, _⟩ := bp
 have each : ∀ k, k < P.n → (V.mul ((if up then 1 else -1 : Rat) * P.T r k) ((y (P.free k)).sub (P.now (P.free k)))).npos := by
  intro k hk
  have nh := hp k hk
  have nh : ¬ P.helps r k up = true := by rw [nh]; simp
  rw [Pb.helps_iff] at nh
  have yk := hy (P.free k) (h.pl.flt k hk)
  by_cases p : 0 < (if up then 1 else -1 : Rat) * P.T r k
  ·obtain ⟨u, hu, hle⟩ := not_rise fun q => nh (Or.inl ⟨p, q⟩)
   exact V.mul_npos (Rat.le_of_lt p) (V.le_iff.1 (V.le_trans (yk.2 u hu) hle))
  ·by_cases p2 : (if up then 1 else -1 : Rat) * P.T r k < 0
   ·obtain ⟨u, hu, hle⟩ := not_fall fun q => nh (Or.inr ⟨p2, q⟩)
    exact V.mul_npos_flip (Rat.le_of_lt p2) (V.le_iff.1 (V.le_trans hle (yk.1 u hu)))
   ·have : (if up then 1 else -1 : Rat) * P.T r k = 0 := by grind
    rw [this]; unfold V.mul V.npos; simp only; right; constructor <;> grind
 have s := vs_npos each
 rw [← vs_sub, ← vs_scale, ← vs_scale, ← Pb.tv_vs ty hr, ← Pb.tv_vs h.tv hr] at s
 cases up with
 | true =>
  simp only [if_true] at hv s
  obtain ⟨l, hl, hlt⟩ := Pb.lo_iff.1 hv
  have := V.lt_of_lt_of_le hlt ((hy _ (h.pl.blt r hr)).1 l hl)
  rw [V.lt_iff] at this
  unfold V.neg V.npos V.mul V.sub at *; simp only at *; grind
 | false =>
  simp only [Bool.false_eq_true, if_false] at hv s
  obtain ⟨l, hl, hlt⟩ := Pb.hi_iff.1 hv
  have := V.lt_of_le_of_lt ((hy _ (h.pl.blt r hr)).2 l hl) hlt
  rw [V.lt_iff] at this
  unfold V.neg V.npos V.mul V.sub at *; simp only at *; grind
/-- No row is broken: all values are in their ranges. -/
theorem Pb.whole {P : Pb} (h : P.Ok) (hb : P.brk = none) : ∀ v, v < P.n + P.m → inR P.low P.high v (P.now v) := by
 intro v hv
 have bp := P.brkT_prop P.m
 unfold Pb.brk at hb; rw [hb] at bp
 rcases h.pl.cover v hv with ⟨i, hi, rfl⟩ | ⟨k, hk, rfl⟩
 ·exact Pb.in_iff.2 (bp i hi)
 ·exact h.inb k hk
def Pb.fd (P : Pb) : Option (Nat × Bool × Nat × V) :=
 match P.brk with
 | none => none
 | some (r, up) => match P.hlp r up, P.goalEnd r up with
  | some c, some b => some (r, up, c, b)
  | _, _ => none
def Pb.fnx (P : Pb) : Pb := match P.fd with | some (r, _, c, b) => P.fst r c b | none => P
def Pb.fseq (P : Pb) : Nat → Pb
 | 0 => P
 | t + 1 => (P.fseq t).fnx
def Pb.dd (P : Pb) : Nat × Bool × Nat × V := P.fd.getD (0, false, 0, ⟨0, 0⟩)
theorem Pb.fd_st {P : Pb} (h : P.Ok) {r : Nat} {up : Bool} {c : Nat} {b : V} (e : P.fd = some (r, up, c, b)) : FSt P r up c b := by
 unfold Pb.fd at e
 cases hb : P.brk with
 | none => rw [hb] at e; simp at e
 | some x =>
  obtain ⟨r', up'⟩ := x
  rw [hb] at e
  simp only at e
  cases hc : P.hlp r' up' with
  | none => rw [hc] at e; simp at e
  | some c' =>
   cases hg : P.goalEnd r' up' with
   | none => rw [hc, hg] at e; simp at e
   | some b' =>
    rw [hc, hg] at e
    simp only [Option.some.injEq, Prod.mk.injEq] at e
    obtain ⟨rfl, rfl, rfl, rfl⟩ := e
    exact ⟨h, hb, hc, hg⟩
theorem Pb.fd_none {P : Pb} (e : P.fd = none) : P.brk = none ∨ ∃ r up, P.brk = some (r, up) ∧ P.hlp r up = none := by
 unfold Pb.fd at e
 cases hb : P.brk with
 | none => exact Or.inl rfl
 | some x =>
  obtain ⟨r', up'⟩ := x
  rw [hb] at e
  simp only at e
  right
  refine ⟨r', up', rfl, ?_⟩
  cases hc : P.hlp r' up' with
  | none => rfl
  | some c' =>
   exfalso
   have bp := P.brkT_prop P.m
   unfold Pb.brk at hb; rw [hb] at bp
   have t := bp.2.1
   cases hg : P.goalEnd r' up' with
   | some b' => rw [hc, hg] at e; simp at e
   | none =>
    unfold Pb.goalEnd at hg
    cases up' with
    | true =>
     simp only [if_true] at hg t
     obtain ⟨l, hl, _⟩ := Pb.lo_iff.1 t
     rw [hg] at hl; simp at hl
    | false =>
     simp only [Bool.false_eq_true, if_false] at hg t
     obtain ⟨l, hl, _⟩ := Pb.hi_iff.1 t
     rw [hg] at hl; simp at hl
theorem Pb.fseq_run {P : Pb} (h : P.Ok) : ∀ L, (∀ t, t < L → (P.fseq t).fd ≠ none) → FRn P.fseq (fun t => (P.fseq t).dd.1) (fun t => (P.fseq t).dd.2.1) (fun t => (P.fseq t).dd.2.2.1) (fun t => (P.fseq t).dd.2.2.2) L
 | 0, _ => ⟨fun t ht => by omega, fun t ht => by omega, h⟩
 | L + 1, hn => by
  have ih := Pb.fseq_run h L fun t ht => hn t (by omega)
  have ok := (ih.same L (Nat.le_refl _)).2.2.2.2.1
  have hL := hn L (by omega)
  obtain ⟨d, hd⟩ : ∃ d, (P.fseq L).fd = some d := by
   cases e : (P.fseq L).fd with
   | none => exact absurd e hL
   | some d => exact ⟨d, rfl⟩
  obtain ⟨r, up, c, b⟩ := d
  have st := Pb.fd_st ok hd
  have e : (P.fseq L).dd = (r, up, c, b) := by unfold Pb.dd; rw [hd]; rfl
  refine ⟨fun t ht => ?_, fun t ht => ?_, h⟩
  ·rcases Nat.lt_succ_iff_lt_or_eq.1 ht with q | q
   ·exact ih.st t q
   ·subst q; rw [e]; exact st
  ·rcases Nat.lt_succ_iff_lt_or_eq.1 ht with q | q
   ·exact ih.nx t q
   ·subst q
    show (P.fseq t).fnx = _
    rw [e]; unfold Pb.fnx; rw [hd]
theorem Pb.fea_ends {P : Pb} (h : P.Ok) : ∃ L, L < 3 ^ (P.n + P.m) ∧ (∀ t, t < L → (P.fseq t).fd ≠ none) ∧ (P.fseq L).fd = none := by
 have a : ∀ L, (∀ t, t < L → (P.fseq t).fd ≠ none) ∨ ∃ K, K < L ∧ (∀ t, t < K → (P.fseq t).fd ≠ none) ∧ (P.fseq K).fd = none := by
  intro L
  induction L with
  | zero => exact Or.inl fun t ht => by omega
  | succ L ih =>
   rcases ih with ih | ⟨K, k1, k2, k3⟩
   ·by_cases e : (P.fseq L).fd = none
    ·exact Or.inr ⟨L, by omega, ih, e⟩
    ·exact Or.inl fun t ht => by
      rcases Nat.lt_succ_iff_lt_or_eq.1 ht with q | q
      ·exact ih t q
      ·subst q; exact e
   ·exact Or.inr ⟨K, by omega, k2, k3⟩
 rcases a (3 ^ (P.n + P.m)) with q | ⟨K, k1, k2, k3⟩
 ·exact absurd (Pb.fseq_run h _ q).mend.ends (Nat.lt_irrefl _)
 ·exact ⟨K, k1, k2, k3⟩
end Go.Proofs.Ytijdglogadnbcaa.Bl
