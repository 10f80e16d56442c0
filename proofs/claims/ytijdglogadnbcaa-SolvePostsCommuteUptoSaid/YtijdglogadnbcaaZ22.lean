/- Entries of tables and values are quotients of small integers. No program. -/
import Derived.Test.YtijdglogadnbcaaZ21
import Derived.Test.YtijdglogadnbcaaZ10
set_option linter.unusedVariables false
set_option linter.unusedSimpArgs false
set_option maxRecDepth 100000
set_option maxHeartbeats 40000000
namespace Go.Proofs.Ytijdglogadnbcaa.Bl
theorem cast_mul (a b : Int) : ((a * b : Int) : Rat) = (a : Rat) * (b : Rat) := Rat.intCast_mul a b
theorem cast_add (a b : Int) : ((a + b : Int) : Rat) = (a : Rat) + (b : Rat) := Rat.intCast_add a b
theorem sm_cast (c x : Nat → Int) : ∀ n, (sm n fun j => (c j : Rat) * (x j : Rat)) = ((si n fun j => c j * x j : Int) : Rat)
 | 0 => by simp [sm, si]
 | n + 1 => by
  show (sm n fun j => (c j : Rat) * (x j : Rat)) + (c n : Rat) * (x n : Rat) = (((si n fun j => c j * x j) + c n * x n : Int) : Rat)
  rw [sm_cast c x n, cast_add, cast_mul]
/-- x is p / q. -/
def Fr (x : Rat) (B : Nat) : Prop := ∃ p q : Int, q ≠ 0 ∧ x * (q : Rat) = (p : Rat) ∧ p.natAbs ≤ B ∧ q.natAbs ≤ B
theorem Fr.bound {x : Rat} {B : Nat} (h : Fr x B) : x.num.natAbs ≤ B ∧ x.den ≤ B := by
 obtain ⟨p, q, hq, e, hp, hqb⟩ := h
 have e2 : x.num * q = p * (x.den : Int) := by
  have d0 : (x.den : Rat) ≠ 0 := by have := x.den_nz; exact_mod_cast this
  have nx : x * (x.den : Rat) = (x.num : Rat) := by
   have h := Rat.num_divInt_den x
   rw [Rat.divInt_eq_div] at h
   have k := Rat.div_mul_cancel (a := (x.num : Rat)) d0
   rw [show (((x.den : Nat) : Int) : Rat) = (x.den : Rat) from rfl] at h
   rwa [h] at k
  have : ((x.num * q : Int) : Rat) = ((p * (x.den : Int) : Int) : Rat) := by
   rw [cast_mul, cast_mul, ← nx, ← e]
   show x * (x.den : Rat) * (q : Rat) = x * (q : Rat) * (((x.den : Nat) : Int) : Rat)
   rw [show (((x.den : Nat) : Int) : Rat) = (x.den : Rat) from rfl]
   grind
  exact_mod_cast this
 have e3 : x.num.natAbs * q.natAbs = p.natAbs * x.den := by
  have := congrArg Int.natAbs e2
  rwa [Int.natAbs_mul, Int.natAbs_mul, Int.natAbs_natCast] at this
 have cp := x.reduced
 have d1 : x.den ∣ q.natAbs := (Nat.Coprime.symm cp).dvd_of_dvd_mul_left ⟨p.natAbs, by rw [e3, Nat.mul_comm]⟩
 have q0 : 0 < q.natAbs := by omega
 refine ⟨?_, Nat.le_trans (Nat.le_of_dvd q0 d1) hqb⟩
 by_cases p0 : p.natAbs = 0
 ·rw [p0, Nat.zero_mul] at e3
  rcases Nat.mul_eq_zero.1 e3 with h | h
  ·omega
  ·omega
 ·have d2 : x.num.natAbs ∣ p.natAbs := cp.dvd_of_dvd_mul_right ⟨q.natAbs, e3.symm⟩
  exact Nat.le_trans (Nat.le_of_dvd (by omega) d2) hp
/-- Another table of the same problem. -/
structure Kin (P Q : Pb) : Prop where
 n : Q.n = P.n
 m : Q.m = P.m
 low : Q.low = P.low
 high : Q.high = P.high
 tw : ∀ y, Q.TW y ↔ P.TW y
theorem Kin.refl (P : Pb) : Kin P P := ⟨rfl, rfl, rfl, rfl, fun _ => Iff.rfl⟩
theorem Kin.trans {P Q S : Pb} (h : Kin P Q) (k : Kin Q S) : Kin P S := ⟨k.n.trans h.n, k.m.trans h.m, k.low.trans h.low, k.high.trans h.high, fun y => (k.tw y).trans (h.tw y)⟩
/-- Every variable is a form with small integers over the first n. -/
structure Fm (P : Pb) (R : Nat) (D : Nat → Nat) (a : Nat → Nat → Int) : Prop where
 r1 : 1 ≤ R
 d1 : ∀ v, v < P.n + P.m → 1 ≤ D v ∧ D v ≤ R
 nr : ∀ v, v < P.n + P.m → nrm P.n (a v) ≤ R
 form : ∀ y, P.TW y → ∀ v, v < P.n + P.m → (D v : Rat) * y v = sm P.n fun j => (a v j : Rat) * y j
 mkx : ∀ x : Nat → Rat, ∃ y, P.TW y ∧ ∀ j, j < P.n → y j = x j
 ends : ∀ v e, v < P.n + P.m → (P.low v = some e ∨ P.high v = some e) → ∃ bm bs : Int, (D v : Rat) * e.m = (bm : Rat) ∧ (D v : Rat) * e.s = (bs : Rat) ∧ nrm P.n (a v) + bm.natAbs ≤ R ∧ nrm P.n (a v) + bs.natAbs ≤ R
/-- Columns at zero: all is zero. -/
theorem tw_zero {Q : Pb} (hp : Q.Pl) {y : Nat → Rat} (ht : Q.TW y) (h0 : ∀ k, k < Q.n → y (Q.free k) = 0) : ∀ v, v < Q.n + Q.m → y v = 0 := by
 intro v hv
 rcases hp.cover v hv with ⟨i, hi, rfl⟩ | ⟨k, hk, rfl⟩
 ·rw [ht i hi]
  exact sm_zero fun k hk => by rw [h0 k hk]; grind
 ·exact h0 k hk
theorem Fm.small {P : Pb} {R : Nat} {D : Nat → Nat} {a : Nat → Nat → Int} (h : Fm P R D a) {x : Nat → Int} {y : Nat → Rat} {H : Nat} (ht : P.TW y) (hy : ∀ j, j < P.n → y j = (x j : Rat)) (hx : ∀ j, j < P.n → (x j).natAbs ≤ H) {v : Nat} (hv : v < P.n + P.m) :
  ∃ z : Int, (D v : Rat) * y v = (z : Rat) ∧ z = (si P.n fun j => a v j * x j) ∧ z.natAbs ≤ R * H := by
 refine ⟨_, ?_, rfl, Nat.le_trans (si_bound hx) (Nat.mul_le_mul_right _ (h.nr v hv))⟩
 rw [h.form y ht v hv, ← sm_cast]
 exact sm_congr fun j hj => by rw [hy j hj]
theorem Fm.tab {P Q : Pb} {R : Nat} {D : Nat → Nat} {a : Nat → Nat → Int} (h : Fm P R D a) (q : Kin P Q) (hp : Q.Pl) {i k : Nat} (hi : i < P.m) (hk : k < P.n) : Fr (Q.T i k) (R * (2 * R) ^ P.n * R) := by
 obtain ⟨M, hM⟩ : ∃ M, P.n = M + 1 := ⟨P.n - 1, by omega⟩
 have en := q.n
 have em := q.m
 have fl : ∀ k', k' < P.n → Q.free k' < P.n + P.m := fun k' hk' => by rw [← en, ← em]; exact hp.flt k' (by omega)
 have bl : Q.basic i < P.n + P.m := by rw [← en, ← em]; exact hp.blt i (by omega)
 have ix : ∀ e, e < M → (if e < k then e else e + 1) < P.n := fun e he => by split <;> omega
 obtain ⟨x, ⟨j0, hj0, hx0⟩, hxb, hxe⟩ := siegel M R h.r1 (fun e => a (Q.free (if e < k then e else e + 1))) fun e he => by rw [← hM]; exact h.nr _ (fl _ (ix e he))
 rw [← hM] at hj0 hxb hxe
 obtain ⟨y, ty, hy⟩ := h.mkx fun j => (x j : Rat)
 have tq := (q.tw y).2 ty
 have others : ∀ k', k' < P.n → k' ≠ k → y (Q.free k') = 0 := fun k' hk' hne => by
  obtain ⟨z, hz, ez, _⟩ := h.small ty hy hxb (fl k' hk')
  have ze : z = 0 := by
   rw [ez]
   by_cases l : k' < k
   ·have := hxe k' (by omega); simp only [if_pos l] at this; exact this
   ·have := hxe (k' - 1) (by omega)
    rw [if_neg (show ¬ k' - 1 < k by omega), show k' - 1 + 1 = k' from by omega] at this
    exact this
  rw [ze] at hz
  have d := (h.d1 _ (fl k' hk')).1
  have d0 : (D (Q.free k') : Rat) ≠ 0 := fun e => by have : D (Q.free k') = 0 := (by exact_mod_cast e); omega
  have : (D (Q.free k') : Rat) * y (Q.free k') = 0 := by simpa using hz
  rcases Rat.mul_eq_zero.1 this with e | e
  ·exact absurd e d0
  ·exact e
 have nz : y (Q.free k) ≠ 0 := fun e => by
  have := tw_zero hp tq (fun k' hk' => by
   by_cases c : k' = k
   ·rw [c]; exact e
   ·exact others k' (by omega) c) j0 (by omega)
  rw [hy j0 hj0] at this
  exact hx0 (by exact_mod_cast this)
 have row : y (Q.basic i) = Q.T i k * y (Q.free k) := by
  rw [tq i (by omega), en]
  exact sm_one (f := fun k' => Q.T i k' * y (Q.free k')) hk fun k' hk' hne => by rw [others k' hk' hne]; grind
 obtain ⟨zb, hzb, _, lzb⟩ := h.small ty hy hxb bl
 obtain ⟨zf, hzf, _, lzf⟩ := h.small ty hy hxb (fl k hk)
 have db := h.d1 _ bl
 have df := h.d1 _ (fl k hk)
 have df0 : (D (Q.free k) : Rat) ≠ 0 := fun e => by have : D (Q.free k) = 0 := (by exact_mod_cast e); omega
 have zf0 : zf ≠ 0 := fun e => by
  rw [e] at hzf
  have : (D (Q.free k) : Rat) * y (Q.free k) = 0 := by simpa using hzf
  rcases Rat.mul_eq_zero.1 this with e | e
  ·exact df0 e
  ·exact nz e
 have mono : (2 * R) ^ M ≤ (2 * R) ^ P.n := Nat.pow_le_pow_right (by have := h.r1; omega) (by omega)
 have b1 : ∀ z : Int, ∀ d : Nat, z.natAbs ≤ R * (2 * R) ^ M → d ≤ R → (z * (d : Int)).natAbs ≤ R * (2 * R) ^ P.n * R := fun z d hz hd => by
  rw [Int.natAbs_mul, Int.natAbs_natCast]
  exact Nat.mul_le_mul (Nat.le_trans hz (Nat.mul_le_mul_left _ mono)) hd
 refine ⟨zb * (D (Q.free k) : Int), zf * (D (Q.basic i) : Int), ?_, ?_, b1 _ _ lzb df.2, b1 _ _ lzf db.2⟩
 ·intro e
  rcases Int.mul_eq_zero.1 e with e | e
  ·exact zf0 e
  ·omega
 ·rw [cast_mul, cast_mul, ← hzb, ← hzf]
  show Q.T i k * ((D (Q.free k) : Rat) * y (Q.free k) * (D (Q.basic i) : Rat)) = (D (Q.basic i) : Rat) * y (Q.basic i) * (D (Q.free k) : Rat)
  rw [row]; grind
theorem tw_line {Q : Pb} {y u : Nat → Rat} (hy : Q.TW y) (hu : Q.TW u) (t : Rat) : Q.TW fun v => y v - t * u v := by
 intro i hi
 show y (Q.basic i) - t * u (Q.basic i) = _
 rw [hy i hi, hu i hi]
 have e : ∀ k, Q.T i k * (y (Q.free k) - t * u (Q.free k)) = Q.T i k * y (Q.free k) + (-t) * (Q.T i k * u (Q.free k)) := fun k => by grind
 rw [show (sm Q.n fun k => Q.T i k * (y (Q.free k) - t * u (Q.free k))) = sm Q.n fun k => Q.T i k * y (Q.free k) + (-t) * (Q.T i k * u (Q.free k)) from sm_congr fun k _ => e k, sm_add, sm_mul]
 grind
/-- One part of the values. -/
theorem Fm.part {P Q : Pb} {R : Nat} {D : Nat → Nat} {a : Nat → Nat → Int} (h : Fm P R D a) (q : Kin P Q) (hp : Q.Pl) {u : Nat → Rat} (tu : Q.TW u)
  (hb : ∀ k, k < P.n → ∃ b : Int, (D (Q.free k) : Rat) * u (Q.free k) = (b : Rat) ∧ nrm P.n (a (Q.free k)) + b.natAbs ≤ R) {v : Nat} (hv : v < P.n + P.m) : Fr (u v) (R * (2 * R) ^ P.n * R) := by
 have en := q.n
 have em := q.m
 have fl : ∀ k', k' < P.n → Q.free k' < P.n + P.m := fun k' hk' => by rw [← en, ← em]; exact hp.flt k' (by omega)
 obtain ⟨b, hb⟩ : ∃ b : Nat → Int, ∀ k, k < P.n → (D (Q.free k) : Rat) * u (Q.free k) = (b k : Rat) ∧ nrm P.n (a (Q.free k)) + (b k).natAbs ≤ R :=
  ⟨fun k => if hk : k < P.n then (hb k hk).choose else 0, fun k hk => by simp only [dif_pos hk]; exact (hb k hk).choose_spec⟩
 have nc : ∀ (f g : Nat → Int) (n : Nat), (∀ j, j < n → f j = g j) → nrm n f = nrm n g := by
  intro f g n
  induction n with
  | zero => intro _; rfl
  | succ n ih => intro hh; show _ + _ = _ + _; rw [ih fun j hj => hh j (by omega), hh n (by omega)]
 have sc : ∀ (f g : Nat → Int) (n : Nat), (∀ j, j < n → f j = g j) → si n f = si n g := by
  intro f g n
  induction n with
  | zero => intro _; rfl
  | succ n ih => intro hh; show _ + _ = _ + _; rw [ih fun j hj => hh j (by omega), hh n (by omega)]
 obtain ⟨x, ⟨j0, hj0, hx0⟩, hxb, hxe⟩ := siegel P.n R h.r1 (fun e j => if j < P.n then a (Q.free e) j else -b e) fun e he => by
  show nrm P.n _ + _ ≤ R
  rw [nc _ (a (Q.free e)) P.n fun j hj => if_pos hj]
  simp only [Nat.lt_irrefl, if_false, Int.natAbs_neg]
  exact (hb e he).2
 obtain ⟨y, ty, hy⟩ := h.mkx fun j => (x j : Rat)
 have tq := (q.tw y).2 ty
 have hxb' : ∀ j, j < P.n → (x j).natAbs ≤ (2 * R) ^ P.n := fun j hj => hxb j (by omega)
 obtain ⟨t, ht⟩ : ∃ t, x P.n = t := ⟨_, rfl⟩
 have eqs : ∀ k, k < P.n → y (Q.free k) = (t : Rat) * u (Q.free k) := fun k hk => by
  obtain ⟨z, hz, ez, _⟩ := h.small ty hy hxb' (fl k hk)
  have := hxe k hk
  have this : (si P.n fun j => (if j < P.n then a (Q.free k) j else -b k) * x j) + (if P.n < P.n then a (Q.free k) P.n else -b k) * x P.n = 0 := this
  rw [sc _ (fun j => a (Q.free k) j * x j) P.n fun j hj => by rw [if_pos hj], ← ez, ht] at this
  simp only [Nat.lt_irrefl, if_false] at this
  have zt : z = b k * t := by rw [Int.neg_mul] at this; omega
  have d := (h.d1 _ (fl k hk)).1
  have d0 : (D (Q.free k) : Rat) ≠ 0 := fun e => by have : D (Q.free k) = 0 := (by exact_mod_cast e); omega
  rw [zt, cast_mul, ← (hb k hk).1] at hz
  have : (D (Q.free k) : Rat) * (y (Q.free k) - (t : Rat) * u (Q.free k)) = 0 := by grind
  rcases Rat.mul_eq_zero.1 this with e | e
  ·exact absurd e d0
  ·grind
 have all : ∀ v, v < P.n + P.m → y v - (t : Rat) * u v = 0 := fun v hv => by
  exact tw_zero (y := fun v => y v - (t : Rat) * u v) hp (tw_line tq tu _) (fun k hk => by rw [eqs k (by omega)]; exact Rat.sub_self) v (by omega)
 have t0 : t ≠ 0 := fun e => by
  subst e
  by_cases c : j0 = P.n
  ·rw [c] at hx0; exact hx0 ht
  ·have := all j0 (by omega)
   rw [hy j0 (by omega)] at this
   have : (x j0 : Rat) = 0 := by simp at this; grind
   exact hx0 (by exact_mod_cast this)
 obtain ⟨z, hz, ez, lz⟩ := h.small ty hy hxb' hv
 have d := h.d1 _ hv
 have tb : t.natAbs ≤ (2 * R) ^ P.n := by rw [← ht]; exact hxb _ (by omega)
 refine ⟨z, t * (D v : Int), ?_, ?_, Nat.le_trans lz (Nat.le_mul_of_pos_right _ h.r1), ?_⟩
 ·intro e
  rcases Int.mul_eq_zero.1 e with e | e
  ·exact t0 e
  ·omega
 ·rw [cast_mul, ← hz]
  have := all v hv
  show u v * ((t : Rat) * (D v : Rat)) = _
  have e : y v = (t : Rat) * u v := by grind
  rw [e]; grind
 ·rw [Int.natAbs_mul, Int.natAbs_natCast]
  refine Nat.mul_le_mul (Nat.le_trans tb (Nat.le_mul_of_pos_left _ h.r1)) d.2
/-- Columns' variables stand at ends, or at zero. -/
def Pb.Ends (P : Pb) : Prop := ∀ k, k < P.n → P.low (P.free k) = some (P.now (P.free k)) ∨ P.high (P.free k) = some (P.now (P.free k)) ∨ P.now (P.free k) = ⟨0, 0⟩
theorem Fm.now {P Q : Pb} {R : Nat} {D : Nat → Nat} {a : Nat → Nat → Int} (h : Fm P R D a) (q : Kin P Q) (hp : Q.Pl) (tv : Q.TV Q.now) (he : Q.Ends) {v : Nat} (hv : v < P.n + P.m) : Fr (Q.now v).m (R * (2 * R) ^ P.n * R) ∧ Fr (Q.now v).s (R * (2 * R) ^ P.n * R) := by
 have fl : ∀ k', k' < P.n → Q.free k' < P.n + P.m := fun k' hk' => by rw [← q.n, ← q.m]; exact hp.flt k' (by rw [q.n]; exact hk')
 have en : ∀ k, k < P.n → ∃ bm bs : Int, (D (Q.free k) : Rat) * (Q.now (Q.free k)).m = (bm : Rat) ∧ (D (Q.free k) : Rat) * (Q.now (Q.free k)).s = (bs : Rat) ∧ nrm P.n (a (Q.free k)) + bm.natAbs ≤ R ∧ nrm P.n (a (Q.free k)) + bs.natAbs ≤ R := fun k hk => by
  rcases he k (by rw [q.n]; exact hk) with e | e | e
  ·exact h.ends _ _ (fl k hk) (Or.inl (by rw [← q.low]; exact e))
  ·exact h.ends _ _ (fl k hk) (Or.inr (by rw [← q.high]; exact e))
  ·rw [e]
   exact ⟨0, 0, by simp, by simp, by simpa using h.nr _ (fl k hk), by simpa using h.nr _ (fl k hk)⟩
 exact ⟨h.part (u := fun v => (Q.now v).m) q hp tv.1 (fun k hk => by obtain ⟨bm, bs, e1, e2, e3, e4⟩ := en k hk; exact ⟨bm, e1, e3⟩) hv,
  h.part (u := fun v => (Q.now v).s) q hp tv.2 (fun k hk => by obtain ⟨bm, bs, e1, e2, e3, e4⟩ := en k hk; exact ⟨bs, e2, e4⟩) hv⟩
end Go.Proofs.Ytijdglogadnbcaa.Bl
/- Raising the goal: what a step does. No program. -/
namespace Go.Proofs.Ytijdglogadnbcaa.Bl
open Go.RowKit Nt
theorem vcmp_zero {a b : V} (h : vcmp a b = 0) : a = b := by
 refine V.le_antisymm (V.not_lt.1 fun k => ?_) (V.not_lt.1 fun k => ?_)
 ·have := vcmp_gt.2 k; omega
 ·have := vcmp_lt.2 k; omega
/-- How far a column's variable can go by itself. -/
def Pb.own (P : Pb) (c : Nat) (rs : Bool) : Option V := (if rs then P.high (P.free c) else P.low (P.free c)).map fun e => vdist e (P.now (P.free c)) rs
/-- What limits a column, of the first i rows. -/
def Pb.RzI (P : Pb) (g c : Nat) (rs : Bool) (i : Nat) : Option (V × Option Nat) → Prop
 | none => P.own c rs = none ∧ ∀ k, k < i → P.stop g c rs k = none
 | some (l, b) => (∀ d, P.own c rs = some d → l.le d) ∧ (∀ k d, k < i → P.stop g c rs k = some d → l.le d) ∧
   match b with
   | none => P.own c rs = some l
   | some r => r < i ∧ P.stop g c rs r = some l ∧ ∀ k, k < i → P.stop g c rs k = some l → P.basic r ≤ P.basic k
theorem Pb.rzT_least (P : Pb) (g c : Nat) (rs : Bool) : ∀ i, P.RzI g c rs i (P.rzT g c rs i)
 | 0 => by
  unfold Pb.rzT
  cases e : (if rs then P.high (P.free c) else P.low (P.free c)) with
  | none => exact ⟨by unfold Pb.own; rw [e]; rfl, fun k hk => by omega⟩
  | some u =>
   have o : P.own c rs = some (vdist u (P.now (P.free c)) rs) := by unfold Pb.own; rw [e]; rfl
   exact ⟨fun d hd => by rw [o] at hd; cases hd; exact V.le_refl _, fun k d hk => by omega, o⟩
 | i + 1 => by
  have ih := P.rzT_least g c rs i
  cases hs : P.stop g c rs i with
  | none =>
   rw [stop_skip hs]
   cases hx : P.rzT g c rs i with
   | none =>
    rw [hx] at ih
    exact ⟨ih.1, fun k hk => by
     rcases Nat.lt_succ_iff_lt_or_eq.1 hk with q | q
     ·exact ih.2 k q
     ·subst q; exact hs⟩
   | some x =>
    obtain ⟨l, b⟩ := x
    rw [hx] at ih
    obtain ⟨a1, a2, a3⟩ := ih
    refine ⟨a1, fun k d hk hd => ?_, ?_⟩
    ·rcases Nat.lt_succ_iff_lt_or_eq.1 hk with q | q
     ·exact a2 k d q hd
     ·subst q; rw [hs] at hd; simp at hd
    ·cases b with
     | none => exact a3
     | some r =>
      refine ⟨by have := a3.1; omega, a3.2.1, fun k hk hd => ?_⟩
      rcases Nat.lt_succ_iff_lt_or_eq.1 hk with q | q
      ·exact a3.2.2 k q hd
      ·subst q; rw [hs] at hd; simp at hd
  | some far =>
   cases hx : P.rzT g c rs i with
   | none =>
    rw [stop_new hs hx]
    rw [hx] at ih
    refine ⟨fun d hd => by rw [ih.1] at hd; simp at hd, fun k d hk hd => ?_, by omega, hs, fun k hk hd => ?_⟩
    ·rcases Nat.lt_succ_iff_lt_or_eq.1 hk with q | q
     ·rw [ih.2 k q] at hd; simp at hd
     ·subst q; rw [hs] at hd; cases hd; exact V.le_refl _
    ·rcases Nat.lt_succ_iff_lt_or_eq.1 hk with q | q
     ·rw [ih.2 k q] at hd; simp at hd
     ·subst q; exact Nat.le_refl _
   | some x =>
    obtain ⟨l, b⟩ := x
    rw [stop_less hs hx]
    rw [hx] at ih
    obtain ⟨a1, a2, a3⟩ := ih
    cases haf : P.after i (vcmp far l) b with
    | true =>
     simp only [if_true]
     have lf : l.le far := by
      refine V.not_lt.1 fun k => ?_
      have neg := vcmp_lt.2 k
      cases b with
      | none => simp only [Pb.after, Bool.or_eq_true, decide_eq_true_iff, beq_iff_eq] at haf; omega
      | some r => simp only [Pb.after, Bool.or_eq_true, Bool.and_eq_true, decide_eq_true_iff, beq_iff_eq] at haf; omega
     refine ⟨a1, fun k d hk hd => ?_, ?_⟩
     ·rcases Nat.lt_succ_iff_lt_or_eq.1 hk with q | q
      ·exact a2 k d q hd
      ·subst q; rw [hs] at hd; cases hd; exact lf
     ·cases b with
      | none => exact a3
      | some r =>
       refine ⟨by have := a3.1; omega, a3.2.1, fun k hk hd => ?_⟩
       rcases Nat.lt_succ_iff_lt_or_eq.1 hk with q | q
       ·exact a3.2.2 k q hd
       ·subst q
        rw [hs] at hd
        cases hd
        simp only [Pb.after, Bool.or_eq_true, Bool.and_eq_true, decide_eq_true_iff, beq_iff_eq] at haf
        rcases haf with h | h
        ·exact absurd (vcmp_gt.1 h) (V.lt_irrefl _)
        ·omega
    | false =>
     simp only [Bool.false_eq_true, if_false]
     have fl : far.le l := by
      refine V.not_lt.1 fun k => ?_
      have pos := vcmp_gt.2 k
      cases b with
      | none => simp only [Pb.after, Bool.or_eq_false_iff, decide_eq_false_iff_not] at haf; omega
      | some r => simp only [Pb.after, Bool.or_eq_false_iff, decide_eq_false_iff_not] at haf; omega
     refine ⟨fun d hd => V.le_trans fl (a1 d hd), fun k d hk hd => ?_, by omega, hs, fun k hk hd => ?_⟩
     ·rcases Nat.lt_succ_iff_lt_or_eq.1 hk with q | q
      ·exact V.le_trans fl (a2 k d q hd)
      ·subst q; rw [hs] at hd; cases hd; exact V.le_refl _
     ·rcases Nat.lt_succ_iff_lt_or_eq.1 hk with q | q
      ·have e : far = l := V.le_antisymm fl (a2 k far q hd)
       subst e
       cases b with
       | none =>
        simp only [Pb.after, Bool.or_eq_false_iff, decide_eq_false_iff_not, beq_eq_false_iff_ne] at haf
        have : vcmp far far = 0 := by
         have h1 : ¬ vcmp far far < 0 := fun h => V.lt_irrefl _ (vcmp_lt.1 h)
         have h2 : ¬ 0 < vcmp far far := fun h => V.lt_irrefl _ (vcmp_gt.1 h)
         omega
        exact absurd this haf.2
       | some r =>
        have := a3.2.2 k q hd
        have z : vcmp far far = 0 := by
         have h1 : ¬ vcmp far far < 0 := fun h => V.lt_irrefl _ (vcmp_lt.1 h)
         have h2 : ¬ 0 < vcmp far far := fun h => V.lt_irrefl _ (vcmp_gt.1 h)
         omega
        rw [z] at haf
        simp [Pb.after] at haf
        omega
      ·subst q; exact Nat.le_refl _
/-- A problem whose values are in their ranges; its last variable has no ends and is that of row g. -/
structure Top (P0 : Pb) (g : Nat) (P : Pb) : Prop where
 kin : Kin P0 P
 ok : P.Ok
 all : ∀ v, v < P.n + P.m → inR P.low P.high v (P.now v)
 en : P.Ends
 gm : g < P.m
 bg : P.basic g = P.n + P.m - 1
 gl : P.low (P.n + P.m - 1) = none
 gh : P.high (P.n + P.m - 1) = none
/-- The way of a column. -/
def sg (rs : Bool) : Rat := if rs then 1 else -1
theorem sg_sq (rs : Bool) : sg rs * sg rs = 1 := by cases rs <;> simp [sg] <;> grind
theorem by_eq (rs : Bool) (l : V) : (if rs then l else V.sub ⟨0, 0⟩ l) = V.mul (sg rs) l := by
 cases rs with
 | true => simp [sg, V.mul]
 | false => simp [sg, V.mul, V.sub]; constructor <;> grind
def V.pos (a : V) : Prop := (⟨0, 0⟩ : V).le a
theorem num_neg {q : Rat} : q.num < 0 ↔ q < 0 := by
 have := @Rat.num_nonneg q
 constructor <;> intro h
 ·have k : ¬ 0 ≤ q := fun k => by have := this.2 k; omega
  grind
 ·have k : ¬ 0 ≤ q.num := fun k => by have := this.1 k; grind
  omega
theorem absr_pos {q : Rat} (h : q ≠ 0) : 0 < absr q := by
 unfold absr
 split
 ·rename_i k; have := num_neg.1 k; grind
 ·rename_i k
  have : ¬ q < 0 := fun e => k (num_neg.2 e)
  grind
/-- The way a row's variable goes. -/
theorem way {q : Rat} (h : q ≠ 0) (rs : Bool) : q * sg rs = absr q * sg (decide (0 < rsgn q) == rs) := by
 have e : decide (0 < rsgn q) = decide (0 < q) := by rw [decide_eq_decide]; exact rsgn_pos
 rw [e]
 have n := @num_neg q
 by_cases p : 0 < q
 ·have : ¬ q.num < 0 := fun k => by have := n.1 k; grind
  unfold absr
  rw [if_neg this]
  cases rs <;> simp [sg, p]
 ·have : q.num < 0 := n.2 (by grind)
  unfold absr
  rw [if_pos this]
  cases rs <;> simp [sg, p] <;> grind
theorem vdist_sg (e a : V) (up : Bool) : vdist e a up = V.mul (sg up) (e.sub a) := by
 cases up with
 | true => simp [vdist, sg, V.mul, V.sub]
 | false => simp [vdist, sg, V.mul, V.sub]; constructor <;> grind
/-- How a row's variable goes: into the range. -/
theorem in_step {lo hi : Option V} {x d : V} {up : Bool} (h1 : ∀ l, lo = some l → l.le x) (h2 : ∀ h, hi = some h → x.le h) (dp : d.pos) (hd : ∀ e, (if up then hi else lo) = some e → d.le (vdist e x up)) :
  (∀ l, lo = some l → l.le (x.add (V.mul (sg up) d))) ∧ ∀ h, hi = some h → (x.add (V.mul (sg up) d)).le h := by
 cases up with
 | true =>
  simp only [if_true] at hd
  refine ⟨fun l hl => ?_, fun h hh => ?_⟩
  ·have := h1 l hl; unfold V.pos V.le at *; unfold V.add V.mul sg; simp only [if_true]; grind
  ·have := hd h hh; unfold V.le vdist V.sub at this; unfold V.le V.add V.mul sg; simp only [if_true] at *; grind
 | false =>
  simp only [Bool.false_eq_true, if_false] at hd
  refine ⟨fun l hl => ?_, fun h hh => ?_⟩
  ·have := hd l hl; unfold V.le vdist V.sub at this; unfold V.le V.add V.mul sg; simp only [Bool.false_eq_true, if_false] at *; grind
  ·have := h2 h hh; unfold V.pos V.le at *; unfold V.add V.mul sg; simp only [Bool.false_eq_true, if_false]; grind
end Go.Proofs.Ytijdglogadnbcaa.Bl
