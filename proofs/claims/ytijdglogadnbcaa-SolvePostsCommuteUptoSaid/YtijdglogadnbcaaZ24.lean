/- Feasible and Greatest, whole: they end; what they find. No program. -/
import Derived.Test.YtijdglogadnbcaaZ23
import Derived.Test.YtijdglogadnbcaaZ21
set_option linter.unusedVariables false
set_option linter.unusedSimpArgs false
set_option maxRecDepth 100000
set_option maxHeartbeats 40000000
namespace Go.Proofs.Ytijdglogadnbcaa.Bl
open Go.RowKit Nt
theorem Top.row_of {P0 P : Pb} {g : Nat} (h : Top P0 g P) : P.rowOf (P.n + P.m - 1) P.m = some g := by
 rw [rowOf_fst, ← h.bg]
 have no : ∀ k, k ≤ g → fstAt P.basic (P.basic g) k = none := by
  intro k
  induction k with
  | zero => intro _; rfl
  | succ k ih => intro hk; exact fstAt_next (ih (by omega)) fun e => by have := h.ok.pl.binj k g (by have := h.gm; omega) h.gm e; omega
 exact fstAt_stay (no g (Nat.le_refl _)) rfl h.gm
theorem gre_run {K g : Nat} : ∀ (L : Nat) (P : Pb), (∀ t, t < L → (P.gseq g t).gn g ≠ none) → (P.gseq g L).gn g = none →
  (∀ t, t ≤ L → PSz (P.gseq g t) K ∧ (P.gseq g t).rowOf ((P.gseq g t).n + (P.gseq g t).m - 1) (P.gseq g t).m = some g) →
  ∃ is, Gre K L P (P.gseq g L) is ∧ (is = true → (P.gseq g L).hlp g true = none) ∧ (is = false → ∃ c, (P.gseq g L).hlp g true = some c ∧ (P.gseq g L).rz g c = none)
 | 0, P, _, he, hs => by
  obtain ⟨s, r⟩ := hs 0 (Nat.le_refl _)
  change P.gn g = none at he
  change PSz P K at s
  change P.rowOf (P.n + P.m - 1) P.m = some g at r
  unfold Pb.gn at he
  cases hh : P.hlp g true with
  | none => exact ⟨true, ⟨s, rfl, Or.inr ⟨rfl, g, r, hh⟩⟩, fun _ => hh, fun e => by simp at e⟩
  | some c =>
   rw [hh] at he
   exact ⟨false, ⟨s, rfl, Or.inl ⟨rfl, Or.inr ⟨g, c, r, hh, he⟩⟩⟩, fun e => by simp at e, fun _ => ⟨c, hh, he⟩⟩
 | L + 1, P, hg, he, hs => by
  obtain ⟨s, r⟩ := hs 0 (by omega)
  cases e : P.gn g with
  | none => exact absurd e (hg 0 (by omega))
  | some P' =>
   obtain ⟨c, h1, h2⟩ := Pb.gn_some e
   have gx := Pb.gx_some e
   have sh : ∀ t, P.gseq g (t + 1) = P'.gseq g t := fun t => by rw [Pb.gseq_succ, gx]
   obtain ⟨is, k1, k2, k3⟩ := gre_run (K := K) (g := g) L P' (fun t ht => by rw [← sh]; exact hg (t + 1) (by omega)) (by rw [← sh]; exact he) (fun t ht => by rw [← sh]; exact hs (t + 1) (by omega))
   rw [sh]
   exact ⟨is, ⟨s, g, c, P', r, h1, h2, k1⟩, k2, k3⟩
/-- No column helps the goal: it is greatest. -/
theorem Top.best {P0 P : Pb} {g : Nat} (h : Top P0 g P) (hh : P.hlp g true = none) (y : Nat → V) (ty : P0.TV y) (hy : ∀ v, v < P0.n + P0.m → inR P0.low P0.high v (y v)) : (y (P0.n + P0.m - 1)).le (P.now (P0.n + P0.m - 1)) := by
 have hp := P.hlpT_prop g true P.n
 unfold Pb.hlp at hh; rw [hh] at hp
 have tq : P.TV y := ⟨(h.kin.tw _).2 ty.1, (h.kin.tw _).2 ty.2⟩
 have each : ∀ k, k < P.n → (V.mul (P.T g k) ((y (P.free k)).sub (P.now (P.free k)))).npos := by
  intro k hk
  have nh := hp k hk
  have nh : ¬ P.helps g k true = true := by rw [nh]; simp
  rw [Pb.helps_iff] at nh
  simp only [if_true] at nh
  have yk := hy (P.free k) (by rw [← h.kin.n, ← h.kin.m]; exact h.ok.pl.flt k hk)
  rw [← h.kin.low, ← h.kin.high] at yk
  by_cases p : 0 < P.T g k
  ·obtain ⟨u, hu, hle⟩ := not_rise fun q => nh (Or.inl ⟨by grind, q⟩)
   exact V.mul_npos (Rat.le_of_lt p) (V.le_iff.1 (V.le_trans (yk.2 u hu) hle))
  ·by_cases p2 : P.T g k < 0
   ·obtain ⟨u, hu, hle⟩ := not_fall fun q => nh (Or.inr ⟨by grind, q⟩)
    exact V.mul_npos_flip (Rat.le_of_lt p2) (V.le_iff.1 (V.le_trans hle (yk.1 u hu)))
   ·have : P.T g k = 0 := by grind
    rw [this]; unfold V.mul V.npos; simp only; right; constructor <;> grind
 have s := vs_npos each
 rw [← vs_sub, ← Pb.tv_vs tq h.gm, ← Pb.tv_vs h.ok.tv h.gm, h.bg, h.kin.n, h.kin.m] at s
 exact V.le_iff.2 s
/-- Nothing stops the column: the goal has no end. -/
theorem Top.endless {P0 P : Pb} {g c : Nat} (h : Top P0 g P) (hh : P.hlp g true = some c) (hz : P.rz g c = none) (q : Rat) (q0 : 0 ≤ q) :
  ∃ y, P0.TV y ∧ (∀ v, v < P0.n + P0.m → inR P0.low P0.high v (y v)) ∧ y (P0.n + P0.m - 1) = (P.now (P0.n + P0.m - 1)).add ⟨q, 0⟩ := by
 have hp := hp_of hh
 rw [rz_eq, Option.map_eq_none_iff] at hz
 have ri := P.rzT_least g c (P.rising g c) P.m
 rw [hz] at ri
 have ap := absr_pos hp.nz
 have ii : absr (P.T g c) * (1 / absr (P.T g c)) = 1 := by grind
 have ip : 0 ≤ 1 / absr (P.T g c) := by
  refine Classical.byContradiction fun k => ?_
  have := Rat.mul_nonneg (Rat.le_of_lt ap) (show 0 ≤ -(1 / absr (P.T g c)) by grind)
  grind
 have lim : P.Lim g c (P.rising g c) ⟨1 / absr (P.T g c) * q, 0⟩ := by
  refine ⟨?_, fun u hu => by rw [ri.1] at hu; simp at hu, fun k u hk hu => by rw [ri.2 k hk] at hu; simp at hu⟩
  have := Rat.mul_nonneg ip q0
  unfold V.pos V.le
  simp only
  grind
 have up := hp.up
 refine ⟨(P.mv c (V.mul (sg (P.rising g c)) ⟨1 / absr (P.T g c) * q, 0⟩)).now, ?_, fun v hv => ?_, ?_⟩
 ·have tv := Pb.mv_tv h.ok.pl hp.cn (V.mul (sg (P.rising g c)) ⟨1 / absr (P.T g c) * q, 0⟩) h.ok.tv
  exact ⟨(h.kin.tw _).1 tv.1, (h.kin.tw _).1 tv.2⟩
 ·rw [← h.kin.low, ← h.kin.high]
  exact h.move_in hp.cn lim v (by rw [h.kin.n, h.kin.m]; exact hv)
 ·have gl := h.goal hp.cn (V.mul (sg (P.rising g c)) ⟨1 / absr (P.T g c) * q, 0⟩)
  rw [h.kin.n, h.kin.m] at gl
  rw [gl]
  congr 1
  unfold V.mul
  refine V.ext' ?_ ?_ <;> simp only
  ·rw [← Rat.mul_assoc, up, ← Rat.mul_assoc, ii]; grind
  ·grind
/-- What holds all along, in both phases. -/
structure Mid (P0 : Pb) (g : Nat) (P : Pb) : Prop where
 kin : Kin P0 P
 ok : P.Ok
 en : P.Ends
 gm : g < P.m
 bg : P.basic g = P.n + P.m - 1
 gl : P.low (P.n + P.m - 1) = none
 gh : P.high (P.n + P.m - 1) = none
theorem Mid.top {P0 P : Pb} {g : Nat} (h : Mid P0 g P) (ha : ∀ v, v < P.n + P.m → inR P.low P.high v (P.now v)) : Top P0 g P := ⟨h.kin, h.ok, ha, h.en, h.gm, h.bg, h.gl, h.gh⟩
theorem Fr.sz {x : Rat} {B K : Nat} (h : Fr x B) (hK : B < 4294967296 ^ K) : Sz x K :=
 ⟨toL_len (Nat.lt_of_le_of_lt h.bound.1 hK), toL_len (Nat.lt_of_le_of_lt h.bound.2 hK)⟩
theorem Fm.end_fr {P : Pb} {R : Nat} {D : Nat → Nat} {a : Nat → Nat → Int} (h : Fm P R D a) {v : Nat} {e : V} (hv : v < P.n + P.m) (he : P.low v = some e ∨ P.high v = some e) : Fr e.m (R * (2 * R) ^ P.n * R) ∧ Fr e.s (R * (2 * R) ^ P.n * R) := by
 obtain ⟨bm, bs, h1, h2, h3, h4⟩ := h.ends v e hv he
 have d := h.d1 v hv
 have r1 := h.r1
 have big : R ≤ R * (2 * R) ^ P.n * R := Nat.le_mul_of_pos_left _ (Nat.mul_pos r1 (Nat.pow_pos (by omega)))
 have d0 : (D v : Int) ≠ 0 := by omega
 exact ⟨⟨bm, D v, d0, by rw [← h1]; show e.m * (D v : Rat) = _; grind, by omega, by rw [Int.natAbs_natCast]; omega⟩, ⟨bs, D v, d0, by rw [← h2]; show e.s * (D v : Rat) = _; grind, by omega, by rw [Int.natAbs_natCast]; omega⟩⟩
theorem Mid.sz {P0 P : Pb} {g R K : Nat} {D : Nat → Nat} {a : Nat → Nat → Int} (h : Mid P0 g P) (F : Fm P0 R D a) (hK : R * (2 * R) ^ P0.n * R < 4294967296 ^ K) : PSz P K := by
 refine ⟨fun v hv => ?_, fun v e hv he => ?_, fun v e hv he => ?_, fun i k hi hk => ?_⟩
 ·have := F.now h.kin h.ok.pl h.ok.tv h.en (v := v) (by rw [← h.kin.n, ← h.kin.m]; exact hv)
  exact ⟨this.1.sz hK, this.2.sz hK⟩
 ·rw [h.kin.n, h.kin.m] at hv
  rw [h.kin.low] at he
  have := F.end_fr hv (Or.inl he)
  exact ⟨this.1.sz hK, this.2.sz hK⟩
 ·rw [h.kin.n, h.kin.m] at hv
  rw [h.kin.high] at he
  have := F.end_fr hv (Or.inr he)
  exact ⟨this.1.sz hK, this.2.sz hK⟩
 ·exact (F.tab h.kin h.ok.pl (by rw [← h.kin.m]; exact hi) (by rw [← h.kin.n]; exact hk)).sz hK
theorem Top.mid {P0 P : Pb} {g : Nat} (h : Top P0 g P) : Mid P0 g P := ⟨h.kin, h.ok, h.en, h.gm, h.bg, h.gl, h.gh⟩
theorem gre_total {P0 P : Pb} {g R K : Nat} {D : Nat → Nat} {a : Nat → Nat → Int} (h : Top P0 g P) (F : Fm P0 R D a) (hK : R * (2 * R) ^ P0.n * R < 4294967296 ^ K) :
  ∃ L Q is, Gre K L P Q is ∧ Top P0 g Q ∧ (is = true → Q.hlp g true = none) ∧ (is = false → ∃ c, Q.hlp g true = some c ∧ Q.rz g c = none) := by
 obtain ⟨L, hL, hE⟩ := gre_ends h
 have R' : GRn P0 g P L := ⟨h, hL⟩
 obtain ⟨is, k1, k2, k3⟩ := gre_run (K := K) L P hL hE fun t ht => ⟨(R'.tops t ht).mid.sz F hK, (R'.tops t ht).row_of⟩
 exact ⟨L, _, is, k1, R'.tops L (Nat.le_refl _), k2, k3⟩
/-- What looking for values in all ranges comes to: the broken row that nothing helps. -/
def Fes (K : Nat) : Nat → Pb → Pb → Option (Nat × Bool) → Prop
 | 0, P, Q, x => PSz P K ∧ Q = P ∧ P.brk = x ∧ ∀ r up, x = some (r, up) → P.hlp r up = none
 | k + 1, P, Q, x => PSz P K ∧ ∃ r up c b, P.brk = some (r, up) ∧ P.hlp r up = some c ∧ P.goalEnd r up = some b ∧
   PSz (P.mv c (V.mul (1 / P.T r c) (b.sub (P.now (P.basic r))))) K ∧ Fes K k (P.fst r c b) Q x
theorem Mid.next {P0 P : Pb} {g r : Nat} {up : Bool} {c : Nat} {b : V} (h : Mid P0 g P) (s : FSt P r up c b) : Mid P0 g (P.fst r c b) := by
 have rg : g ≠ r := fun e => by
  have v := s.viol
  rw [← e, h.bg, h.gl, h.gh] at v
  cases up <;> simp at v
 refine ⟨⟨h.kin.n, h.kin.m, h.kin.low, h.kin.high, fun y => (Pb.pivot_tw (Pb.mv_pl h.ok.pl c _) s.rm s.cn s.nz y).symm.trans (h.kin.tw y)⟩, s.next, fun k hk => ?_, h.gm, by show (if g = r then P.free c else P.basic g) = _; rw [if_neg rg]; exact h.bg, h.gl, h.gh⟩
 show P.low (if k = c then P.basic r else P.free k) = some ((P.fst r c b).now (if k = c then P.basic r else P.free k)) ∨ P.high (if k = c then P.basic r else P.free k) = some ((P.fst r c b).now (if k = c then P.basic r else P.free k)) ∨ (P.fst r c b).now (if k = c then P.basic r else P.free k) = ⟨0, 0⟩
 by_cases e : k = c
 ·rw [if_pos e, s.now_out]
  have := s.en
  unfold Pb.goalEnd at this
  cases up with
  | true => left; simpa using this
  | false => right; left; simpa using this
 ·rw [if_neg e, s.now_free hk e]; exact h.en k hk
theorem fes_run {P0 : Pb} {g R K : Nat} {D : Nat → Nat} {a : Nat → Nat → Int} (F : Fm P0 R D a) (hK : R * (2 * R) ^ P0.n * R < 4294967296 ^ K) : ∀ (L : Nat) (P : Pb), Mid P0 g P → (∀ t, t < L → (P.fseq t).fd ≠ none) → (P.fseq L).fd = none →
  ∃ Q x, Fes K L P Q x ∧ Mid P0 g Q ∧ Q.brk = x ∧ ∀ r up, x = some (r, up) → Q.hlp r up = none
 | 0, P, h, _, he => by
  have hn := Pb.fd_none he
  have hn : ∀ r up, P.brk = some (r, up) → P.hlp r up = none := fun r up e => by
   rcases hn with q | ⟨r', up', q1, q2⟩
   ·have q : P.brk = none := q
    rw [q] at e; simp at e
   ·have q1 : P.brk = some (r', up') := q1
    rw [q1] at e; cases e; exact q2
  exact ⟨P, P.brk, ⟨h.sz F hK, rfl, rfl, hn⟩, h, rfl, hn⟩
 | L + 1, P, h, hg, he => by
  cases e : P.fd with
  | none => exact absurd e (hg 0 (by omega))
  | some d =>
   obtain ⟨r, up, c, b⟩ := d
   have s := Pb.fd_st h.ok e
   have nx : P.fnx = P.fst r c b := by unfold Pb.fnx; rw [e]
   have sh : ∀ t, P.fseq (t + 1) = (P.fst r c b).fseq t := by
    intro t
    induction t with
    | zero => exact nx
    | succ t ih => show (P.fseq (t + 1)).fnx = _; rw [ih]; rfl
   have h' := h.next s
   have z := h.sz F hK
   have z' := h'.sz F hK
   obtain ⟨Q, x, k1, k2, k3, k4⟩ := fes_run F hK L (P.fst r c b) h' (fun t ht => by rw [← sh]; exact hg (t + 1) (by omega)) (by rw [← sh]; exact he)
   exact ⟨Q, x, ⟨z, r, up, c, b, s.br, s.hl, s.en, ⟨z'.now, z.low, z.high, z.tab⟩, k1⟩, k2, k3, k4⟩
theorem fes_total {P0 P : Pb} {g R K : Nat} {D : Nat → Nat} {a : Nat → Nat → Int} (h : Mid P0 g P) (F : Fm P0 R D a) (hK : R * (2 * R) ^ P0.n * R < 4294967296 ^ K) :
  ∃ L Q x, Fes K L P Q x ∧ Mid P0 g Q ∧ (x = none → ∀ v, v < P0.n + P0.m → inR P0.low P0.high v (Q.now v)) ∧
   (∀ r up, x = some (r, up) → Q.brk = some (r, up) ∧ Q.hlp r up = none ∧ ∀ y, P0.TV y → (∀ v, v < P0.n + P0.m → inR P0.low P0.high v (y v)) → False) := by
 obtain ⟨L, _, hL, hE⟩ := Pb.fea_ends h.ok
 obtain ⟨Q, x, k1, k2, k3, k4⟩ := fes_run F hK L P h hL hE
 refine ⟨L, Q, x, k1, k2, fun e v hv => ?_, fun r up e => ⟨k3.trans e, k4 r up e, fun y ty hy => ?_⟩⟩
 ·rw [← k2.kin.low, ← k2.kin.high]
  exact Pb.whole k2.ok (k3.trans e) v (by rw [k2.kin.n, k2.kin.m]; exact hv)
 ·exact Pb.stuck k2.ok (k3.trans e) (k4 r up e) y ⟨(k2.kin.tw _).2 ty.1, (k2.kin.tw _).2 ty.2⟩ fun v hv => by
   rw [k2.kin.low, k2.kin.high]; exact hy v (by rw [← k2.kin.n, ← k2.kin.m]; exact hv)
end Go.Proofs.Ytijdglogadnbcaa.Bl
