/- The reference's Of, Cmp, Sign. -/
import Derived.Test.YtijdglogadnbcaaZ41
import Derived.Test.YtijdglogadnbcaaZ13
import Derived.Test.YtijdglogadnbcaaZ18
import Derived.Test.YtijdglogadnbcaaZ06
set_option linter.unusedVariables false
set_option linter.unusedSimpArgs false
set_option maxRecDepth 100000
set_option maxHeartbeats 40000000
namespace Go.Proofs.Ytijdglogadnbcaa
open Go.RowKit Nt
/-- A rational number of the reference's in memory. -/
structure HR (w : World) (q : Rat) (s : Bool) (a : Option Addr) (n c : Nat) (b : Option Addr) (m d : Nat) : Prop where
 sg : s = decide (q.num < 0)
 num : HAt w (Nh.toL q.num.natAbs) a n c
 den : HAt w (Nh.toL q.den) b m d
theorem HR.below {w w' : World} {q : Rat} {s : Bool} {a b : Option Addr} {n c m d : Nat} (h : HR w q s a n c b m d) (hb : Below w.heap.size w w') : HR w' q s a n c b m d := ⟨h.sg, h.num.below hb, h.den.below hb⟩
def HRPost (w : World) (q : Rat) (e : Ending) (w' : World) : Prop :=
 ∃ s a n c b m d, e = .returned (.agg #[.bool s, .slice a n c, .slice b m d]) ∧ HR w' q s a n c b m d ∧ Below w.heap.size w w'
/-- What a valid number is. -/
def rawQ (R : Raw) : Rat := frac R.neg (vl R.num) (vl R.den)
theorem rawQ_facts {R : Raw} (hn : Lm R.num) (hd : Lm R.den) (h : chkN R = 0) : (rawQ R).num.natAbs = vl R.num ∧ (rawQ R).den = vl R.den ∧ R.neg = decide ((rawQ R).num < 0) ∧ R.num = toL (vl R.num) ∧ R.den = toL (vl R.den) ∧ R.num.length ≤ 128 ∧ R.den.length ≤ 128 := by
 unfold chkN at h
 by_cases h1 : 128 < R.num.length ∨ 128 < R.den.length
 ·rw [if_pos h1] at h; omega
 rw [if_neg h1] at h
 by_cases h2 : lastz R.num = true ∨ lastz R.den = true ∨ R.den = []
 ·rw [if_pos h2] at h; omega
 rw [if_neg h2] at h
 by_cases h3 : vl R.num = 0 ∧ (R.neg = true ∨ vl R.den ≠ 1)
 ·rw [if_pos h3] at h; omega
 rw [if_neg h3] at h
 by_cases h4 : Nat.gcd (vl R.num) (vl R.den) ≠ 1
 ·rw [if_pos h4] at h; omega
 have h4 : Nat.gcd (vl R.num) (vl R.den) = 1 := Classical.not_not.1 h4
 have z1 : lastz R.num = false := by cases e : lastz R.num with | false => rfl | true => exact absurd (Or.inl e) h2
 have z2 : lastz R.den = false := by cases e : lastz R.den with | false => rfl | true => exact absurd (Or.inr (Or.inl e)) h2
 have c1 := canon hn z1
 have c2 := canon hd z2
 have d0 : vl R.den ≠ 0 := fun e => by
  rw [e, toL_zero] at c2
  exact h2 (Or.inr (Or.inr c2))
 refine ⟨by unfold rawQ; rw [frac_num d0, h4, Nat.div_one], by unfold rawQ; rw [frac_den d0, h4, Nat.div_one], ?_, c1, c2, by omega, by omega⟩
 unfold rawQ
 by_cases p0 : vl R.num = 0
 ·have ng : R.neg = false := by cases e : R.neg with | false => rfl | true => exact absurd ⟨p0, Or.inl e⟩ h3
  rw [p0, frac_zero, ng]; rfl
 ·rw [frac_sign d0 p0]
theorem RwAt.rat {w : World} {R : Raw} {a b : Option Addr} {n c m d : Nat} (h : RwAt w R a n c b m d) (h0 : chkN R = 0) : RAt w (rawQ R) R.neg a n c b m d := by
 obtain ⟨f1, f2, f3, f4, f5, _⟩ := rawQ_facts h.num.lm h.den.lm h0
 exact ⟨f3, by rw [f1, ← f4]; exact h.num, by rw [f2, ← f5]; exact h.den⟩
/-- A struct of three cells of the reference's. -/
def NR (w : World) (g : Nat) (s : Bool) (a : Option Addr) (n c : Nat) (b : Option Addr) (m d : Nat) : Prop := w.heap[g]? = some (.cells #[.bool s, .slice a n c, .slice b m d] 86 (0, 0))
theorem NR.reads {w : World} {g : Nat} {s : Bool} {a b : Option Addr} {n c m d : Nat} (h : NR w g s a n c b m d) :
  w.cell? ⟨g, 0, none⟩ = some (.bool s) ∧ w.cell? ⟨g, 1, none⟩ = some (.slice a n c) ∧ w.cell? ⟨g, 2, none⟩ = some (.slice b m d) ∧ ∀ i, w.frozen? ⟨g, i, none⟩ = false := by
 refine ⟨?_, ?_, ?_, fun i => ?_⟩
 ·rw [cell_of_row w g 0 _ _ _ h]; rfl
 ·rw [cell_of_row w g 1 _ _ _ h]; rfl
 ·rw [cell_of_row w g 2 _ _ _ h]; rfl
 ·unfold NR at h; simp [World.frozen?, h]
theorem NR.later {k g : Nat} {w w' : World} {s : Bool} {a b : Option Addr} {n c m d : Nat} (h : NR w g s a n c b m d) (hb : Below k w w') (hg : g < k) : NR w' g s a n c b m d := (hb.block g hg).trans h
theorem NR.lt {w : World} {g : Nat} {s : Bool} {a b : Option Addr} {n c m d : Nat} (h : NR w g s a n c b m d) : g < w.heap.size := (Array.getElem?_eq_some_iff.1 h).1
theorem IAt.besideR {w w' : World} {g : Nat} {s : Bool} {a b : Option Addr} {n c m d : Nat} {l : List Nat} {ad : Option Addr} (h : IAt w l ad) (hg : NR w g s a n c b m d) (hw : ∀ k, k ≠ g → w'.heap[k]? = w.heap[k]?) : IAt w' l ad := by
 intro hne
 obtain ⟨b1, o1, e, dd⟩ := h hne
 have hl : 0 < l.length := by cases l with | nil => exact absurd rfl hne | cons x l => simp
 have hb : b1 ≠ g := by
  intro q
  have := dd 0 hl
  rw [q, cell_of_row w g _ _ _ _ hg] at this
  rcases o1 with _ | _ | _ | o1 <;> simp at this
 exact ⟨b1, o1, e, fun i hi => (World.cell?_of_block (hw b1 hb)).trans (dd i hi)⟩
theorem HAt.besideR {w w' : World} {g : Nat} {s : Bool} {a b : Option Addr} {n c m d : Nat} {l : List Nat} {ad : Option Addr} {k e : Nat} (h : HAt w l ad k e) (hg : NR w g s a n c b m d) (hw : ∀ k, k ≠ g → w'.heap[k]? = w.heap[k]?) : HAt w' l ad k e :=
 ⟨h.at_.besideR hg hw, h.len, h.le, h.cap, h.lm⟩
/-- Signs of differences. -/
def cmpZ (X Y : Int) : Int := if X < Y then -1 else if Y < X then 1 else 0
theorem rsgn_sub (p q : Rat) : rsgn (p - q) = cmpZ (p.num * q.den) (q.num * p.den) := by
 have l1 : p < q ↔ p.num * q.den < q.num * p.den := Rat.lt_iff p q
 have l2 : q < p ↔ q.num * p.den < p.num * q.den := Rat.lt_iff q p
 have s1 := @Bl.rsgn_neg (p - q)
 have s2 := @Bl.rsgn_pos (p - q)
 have s3 := @Bl.rsgn_zero (p - q)
 have r3 : rsgn (p - q) = -1 ∨ rsgn (p - q) = 0 ∨ rsgn (p - q) = 1 := by
  unfold rsgn
  split
  ·exact Or.inr (Or.inl rfl)
  ·split
   ·exact Or.inl rfl
   ·exact Or.inr (Or.inr rfl)
 unfold cmpZ
 by_cases h1 : p < q
 ·rw [if_pos (l1.1 h1)]
  have := s1.2 (by grind)
  omega
 ·rw [if_neg fun e => h1 (l1.2 e)]
  by_cases h2 : q < p
  ·rw [if_pos (l2.1 h2)]
   have := s2.2 (by grind)
   omega
  ·rw [if_neg fun e => h2 (l2.2 e)]
   exact s3.2 (by grind)
theorem cmp_case (p q : Rat) (x y : Nat) (hx : p.num.natAbs * q.den = x) (hy : q.num.natAbs * p.den = y) :
  (p.num < 0 → ¬ q.num < 0 → rsgn (p - q) = -1) ∧ (¬ p.num < 0 → q.num < 0 → rsgn (p - q) = 1) ∧ (p.num < 0 → q.num < 0 → rsgn (p - q) = cmpN y x) ∧ (¬ p.num < 0 → ¬ q.num < 0 → rsgn (p - q) = cmpN x y) := by
 have pd : (0 : Int) < p.den := by have := p.den_pos; omega
 have qd : (0 : Int) < q.den := by have := q.den_pos; omega
 rw [rsgn_sub]
 have ex : (x : Int) = p.num.natAbs * q.den := by rw [← hx]; push_cast; rfl
 have ey : (y : Int) = q.num.natAbs * p.den := by rw [← hy]; push_cast; rfl
 refine ⟨fun a b => ?_, fun a b => ?_, fun a b => ?_, fun a b => ?_⟩
 ·have h1 : p.num * q.den < 0 := Int.mul_neg_of_neg_of_pos a qd
  have h2 : 0 ≤ q.num * p.den := Int.mul_nonneg (by omega) (by omega)
  unfold cmpZ; rw [if_pos (by omega)]
 ·have h1 : q.num * p.den < 0 := Int.mul_neg_of_neg_of_pos b pd
  have h2 : 0 ≤ p.num * q.den := Int.mul_nonneg (by omega) (by omega)
  unfold cmpZ; rw [if_neg (by omega), if_pos (by omega)]
 ·have e1 : p.num * q.den = -(x : Int) := by rw [ex, show ((p.num.natAbs : Nat) : Int) = -p.num from by omega]; grind
  have e2 : q.num * p.den = -(y : Int) := by rw [ey, show ((q.num.natAbs : Nat) : Int) = -q.num from by omega]; grind
  rw [e1, e2]; unfold cmpZ cmpN
  by_cases h1 : y < x
  ·rw [if_pos (by omega), if_pos h1]
  ·rw [if_neg (by omega), if_neg h1]
   by_cases h2 : x < y
   ·rw [if_pos (by omega), if_pos h2]
   ·rw [if_neg (by omega), if_neg h2]
 ·have e1 : p.num * q.den = (x : Int) := by rw [ex, show ((p.num.natAbs : Nat) : Int) = p.num from by omega]
  have e2 : q.num * p.den = (y : Int) := by rw [ey, show ((q.num.natAbs : Nat) : Int) = q.num from by omega]
  rw [e1, e2]; unfold cmpZ cmpN
  by_cases h1 : x < y
  ·rw [if_pos (by omega), if_pos h1]
  ·rw [if_neg (by omega), if_neg h1]
   by_cases h2 : y < x
   ·rw [if_pos (by omega), if_pos h2]
   ·rw [if_neg (by omega), if_neg h2]
theorem hwhole_any {w : World} {x : Nat} {q : Rat} {neg : Bool} {a : Option Addr} {n c : Nat} (ha : HAt w (Nh.toL x) a n c) (h1 : q.num.natAbs = x) (h2 : q.den = 1) (h3 : decide (q.num < 0) = (neg && decide (0 < n))) :
  Calls Try.prog 37 #[.bool neg, .slice a n c] w (HRPost w q) := by
 have H1 := Lib.hid h1; have H2 := Lib.hid h2; have A := Lib.hid ha
 have fin := Lib.hid (fun (s : Bool) (hs : s = decide (q.num < 0)) => (show HRPost w q (.returned (.agg #[.bool s, .slice a n c, .slice (some ⟨w.heap.size + 1, 0, none⟩) 1 1])) ((w.alloc (.cells #[.bool s, .slice a n c, .slice (some ⟨w.heap.size + 1, 0, none⟩) 1 1] 86)).alloc (.cells #[.int .i64 1] 3)) from by
  have B : Below w.heap.size w ((w.alloc (.cells #[.bool s, .slice a n c, .slice (some ⟨w.heap.size + 1, 0, none⟩) 1 1] 86)).alloc (.cells #[.int .i64 1] 3)) := (below_new _ _).alloc (by simp) _
  have ONE := hone_new (w.alloc (.cells #[.bool s, .slice a n c, .slice (some ⟨w.heap.size + 1, 0, none⟩) 1 1] 86))
  rw [show (w.alloc (.cells #[.bool s, .slice a n c, .slice (some ⟨w.heap.size + 1, 0, none⟩) 1 1] 86)).heap.size = w.heap.size + 1 from by simp] at ONE
  exact ⟨s, a, n, c, _, 1, 1, rfl, ⟨hs, by rw [H1.out]; exact A.out.below B, by rw [H2.out]; exact ONE⟩, B⟩))
 have SG := Lib.hid h3
 clear ha h1 h2 h3
 cases neg with
 | false =>
  go_enter Try.func37, Try.ntmps37
  go_wp2_with fail
  exact bodyPost_ret (v := .agg #[.bool false, .slice a n c, .slice (some ⟨w.heap.size + 1, 0, none⟩) 1 1]) (by simp [results, Try.results37, go_sem]) rfl (fin.out false (by have := SG.out; simpa using this.symm))
 | true =>
  by_cases n0 : n = 0
  ·subst n0
   go_enter Try.func37, Try.ntmps37
   go_wp2_with fail
   exact bodyPost_ret (v := .agg #[.bool false, .slice a 0 c, .slice (some ⟨w.heap.size + 1, 0, none⟩) 1 1]) (by simp [results, Try.results37, go_sem]) rfl (fin.out false (by have := SG.out; simpa using this.symm))
  ·have n1 : 0 < n := by omega
   have n2 : decide (0 < n) = true := decide_eq_true n1
   go_enter Try.func37, Try.ntmps37
   go_wp2_with fail
   exact bodyPost_ret (v := .agg #[.bool true, .slice a n c, .slice (some ⟨w.heap.size + 1, 0, none⟩) 1 1]) (by simp [results, Try.results37, go_sem]) rfl (fin.out true (by have := SG.out; rw [n2] at this; simpa using this.symm))
theorem hnil_at (w : World) : HAt w (Nh.toL 0) none 0 0 := by
 rw [Nh.toL_zero]
 exact ⟨fun h => absurd rfl h, rfl, Nat.le_refl _, by omega, fun x hx => by simp at hx⟩
end Go.Proofs.Ytijdglogadnbcaa
namespace Go.Proofs.Ytijdglogadnbcaa
open Go.RowKit
theorem nat_short {l : List Nat} {n : Nat} (h : Nt.Lm l) (hn : l.length ≤ n) : (Nh.toL (Nt.vl l)).length ≤ 2 * n := by
 refine Nh.toL_len ?_
 have h1 := Nt.vl_lt h
 have h2 : 4294967296 ^ l.length ≤ 4294967296 ^ n := Nat.pow_le_pow_right (by omega) hn
 rw [Nat.pow_mul]
 exact Nat.lt_of_lt_of_le h1 h2
end Go.Proofs.Ytijdglogadnbcaa
namespace Go.Proofs.Ytijdglogadnbcaa
open Go.RowKit Nt
def numF (R : Raw) (coef : Bool) : Int := if chkN R ≠ 0 then chkN R else if coef = true ∧ R.num.length = 0 then 2 else smallN R
theorem numF_false (R : Raw) : numF R false = smallN R := by
 unfold numF smallN
 by_cases h : chkN R ≠ 0
 ·rw [if_pos h, if_pos h]
 ·rw [if_neg h, if_neg (by simp)]
end Go.Proofs.Ytijdglogadnbcaa
namespace Go.Proofs.Ytijdglogadnbcaa
open Go.RowKit
theorem and16_u64 (x : Nat) (h : x < 18446744073709551616) : bits .and .u64 (x : Int) 65535 = ((x % 65536 : Nat) : Int) := by
 have := (bits_nat .u64 64 (by decide) (fun n h0 h1 => by rw [IntKind.wrap_u64]; omega) x 65535 (by omega) (by decide)).1
 rw [show (65535 : Int) = ((65535 : Nat) : Int) from rfl, this]
 congr 1
 exact Nat.and_two_pow_sub_one_eq_mod x 16
def OiL (w : World) (x : Nat) (v0 v3 : Value) (wr : World) : Prop :=
 ∃ (out : List Nat) (n : Nat), v0 = .int .u64 (n : Int) ∧ n < 18446744073709551616 ∧ Nh.toL x = out ++ Nh.toL n ∧ out.length ≤ 64 ∧ Nh.Lm out ∧ (n ≠ 0 → n < 65536 ^ (64 - out.length)) ∧ wr.ownsRow w.heap.size 3 1 v3 out.length (i64s out) ∧ Below w.heap.size w wr
theorem ofInt_any (x : Nat) (hx : x < 18446744073709551616) (w : World) : Calls Try.prog 38 #[.int .u64 (x : Int)] w (HPost w x) := by
 obtain ⟨i0, hi0, hz0, hz1, hz2⟩ := info_parts info3
 have hx64 : x < 65536 ^ 64 := Nat.lt_trans hx (by decide)
 have HX := Lib.hid hx64
 clear hx64
 go_enter Try.func38, Try.ntmps38
 go_wp2_with fail
 go_loopw [0, 3] (fun v0 v3 wr => OiL w x v0 v3 wr) (fun v _ _ => (intOf v).toNat)
 case atStart => exact ⟨[], x, rfl, hx, rfl, by simp, fun y hy => by simp at hy, fun _ => HX.out, World.ownsRow_nil _ _ _ _, Below.refl _ _⟩
 case round =>
  obtain ⟨out, n, rfl, hn, he, ho, hl, hs, hO, hB⟩ := hrel
  have O := Lib.hid hO; have BR := Lib.hid hB; have HE := Lib.hid he; have HL := Lib.hid hl
  by_cases n0 : n = 0
  ·have E : Hid (Nh.toL x = out) := by show _ = _; rw [he, n0, Nh.toL_zero, List.append_nil]
   obtain ⟨a2, c2, rfl, L2⟩ := own_hat hl rfl hO
   have L2 := Lib.hid L2
   subst n0
   clear he hO hB hl hs
   go_wp2_with fail
   go_ret
   exact ⟨a2, _, c2, rfl, by rw [E.out]; exact L2.out, BR.out⟩
  ·have o2 : out.length < 64 := by
    refine Classical.byContradiction fun q => ?_
    have e : 64 - out.length = 0 := by omega
    have := hs n0
    rw [e] at this
    simp at this
    exact n0 this
   have an := and16_u64 n hn
   obtain ⟨y, hy⟩ : ∃ y, n % 65536 = y := ⟨_, rfl⟩
   obtain ⟨z, hz⟩ : ∃ z, n / 65536 = z := ⟨_, rfl⟩
   rw [hy] at an
   have dz : (n : Int) / 65536 = (z : Int) := by omega
   have yb : y < 65536 := by omega
   have NX : Hid (Nh.toL x = (out ++ [y]) ++ Nh.toL z) := by
    show _ = _
    rw [he, Nh.toL_pos n0, hy, hz]; simp
   have ZB : Hid (z ≠ 0 → z < 65536 ^ (64 - (out ++ [y]).length)) := fun _ => by
    have := hs n0
    rw [show 64 - out.length = (64 - (out ++ [y]).length) + 1 from by simp; omega, Nat.pow_succ] at this
    rw [← hz]
    exact Nat.div_lt_of_lt_mul (by rw [Nat.mul_comm]; exact this)
   have ZL : z < n := by omega
   have n1 : (0 : Int) < (n : Int) := by omega
   have LY := Lib.hid (Nh.lm_snoc hl yb)
   have O2 := Lib.hid (hO.alloc (.cells #[.int .i64 (y : Int)] 3))
   obtain ⟨k, hk⟩ : ∃ k, out.length = k := ⟨_, rfl⟩
   have HK := Lib.hid hk
   rw [hk] at O2 O o2
   have zb2 : z < 18446744073709551616 := by omega
   clear he hO hB hl hs hy hz hk ho n0
   go_wp2_with (at_builtin; refine wpList_append_own _ rfl _ _ 84 rfl w.heap.size 3 i0 (.int .i64 0) 1 8 Try.underlying84 hi0 hz0 hz1 hz2 rfl (by omega) u3 k _ rfl O2.out ⟨wr.heap.size, 0, none⟩ 1 1 [.int .i64 (y : Int)] rfl rfl (one_cell_new wr y) (by intro u hu; simp at hu; rw [hu]; rfl) (by unfold maxLen; omega) (by omega) (by have := BR.out.size; simp; omega) ?_; intro v' w1 hown1 hgrow1 hnil1; rw [i64s_snoc] at hown1; have OW := Lib.hid hown1; have GR := Lib.hid hgrow1; clear hown1 hgrow1 hnil1)
   have BF := Lib.hid (below_append _ BR.out O.out GR.out)
   go_roundw
   case rel => exact ⟨out ++ [y], z, rfl, zb2, NX.out, by simp [HK.out]; omega, LY.out, ZB.out, by simp only [List.length_append, HK.out, List.length_cons, List.length_nil]; exact OW.out, BF.out⟩
   case measure => simp [intOf]; omega
theorem u32s_snoc (l : List Nat) (d : Nat) : u32s l ++ [Value.int .u32 (d : Int)] = u32s (l ++ [d]) := by simp [u32s]
theorem one_u32_new (w : World) (d : Nat) : ∀ j u, [Value.int .u32 (d : Int)][j]? = some u → (w.alloc (.cells #[.int .u32 (d : Int)] 55)).cell? ((⟨w.heap.size, 0, none⟩ : Addr).add j) = some u := by
 intro j u hu
 rw [Addr.add_lit, Nat.zero_add, cell_of_row _ w.heap.size j _ _ _ (heap_alloc_new w (.cells #[.int .u32 (d : Int)] 55))]
 rcases j with _ | j <;> simp at hu ⊢ <;> exact hu
theorem own_lat {w : World} {b n : Nat} {v : Value} {l : List Nat} (hl : Nt.Lm l) (hn : l.length = n) (h : w.ownsRow b 55 1 v n (u32s l)) : ∃ a c, v = .slice a n c ∧ LAt w l a n c := by
 rcases h.2 with ⟨rfl, h0⟩ | ⟨g, cap, cur, rfl, _, hg, hc, hm, _, ht⟩
 ·subst h0
  have e : l = [] := List.length_eq_zero_iff.1 hn
  subst e
  exact ⟨none, 0, rfl, fun q => absurd rfl q, rfl, Nat.le_refl _, by omega, fun x hx => by simp at hx⟩
 ·refine ⟨some ⟨g, 0, none⟩, cap, rfl, fun _ => ⟨g, 0, rfl, fun i hi => ?_⟩, hn, hc, hm, hl⟩
  have := h.cells (g := g) rfl i _ (u32s_get l hi)
  rw [Addr.add_lit] at this
  exact this
theorem below_appendT {w wd w1 : World} {v : Value} {e sz k : Nat} {xs : List Value} (o : Obj) (B : Below w.heap.size w wd) (O : wd.ownsRow w.heap.size e sz v k xs) (G : (wd.alloc o).grownBy w1 v.ownBlock) : Below w.heap.size w w1 := by
 have BA : Below wd.heap.size wd (wd.alloc o) := (Below.refl _ _).alloc (Nat.le_refl _) _
 refine ⟨G.os.trans (BA.os.trans B.os), G.tape.trans (BA.tape.trans B.tape), G.output.trans (BA.output.trans B.output), Nat.le_trans B.size (Nat.le_trans BA.size G.size), fun q hq => ?_⟩
 rw [G.block q (Nat.lt_of_lt_of_le hq (Nat.le_trans B.size BA.size)) (fun e => by have := (O.lt q e.symm).1; omega)]
 exact (BA.block q (Nat.lt_of_lt_of_le hq B.size)).trans (B.block q hq)
theorem digit_at (x : Nat) : ∀ j, (Nh.toL x).getD j 0 = x / 65536 ^ j % 65536 := by
 intro j
 induction j generalizing x with
 | zero =>
  by_cases h : x = 0
  ·subst h; rw [Nh.toL_zero]; rfl
  ·rw [Nh.toL_pos h]; simp
 | succ j ih =>
  by_cases h : x = 0
  ·subst h; rw [Nh.toL_zero]; simp
  ·rw [Nh.toL_pos h, List.getD_cons_succ, ih, Nat.div_div_eq_div_mul, Nat.pow_succ, Nat.mul_comm]
theorem join_u32 {d e t : Nat} (hd : d < 65536) (he : e < 65536) (ht : d + 65536 * e = t) : bits .or .u32 (d : Int) ((e : Int) * 65536) = (t : Int) := by
 rw [show (e : Int) * 65536 = ((e * 65536 : Nat) : Int) from by omega, or32 d (e * 65536) (by omega) (by omega)]
 congr 1
 have := Nt.or_low (s := 16) (x := d) (m := e) hd
 rw [show e * 65536 = 2 ^ 16 * e from by omega, this]; omega
def LmL (w : World) (x n : Nat) (v3 v4 : Value) (wr : World) : Prop :=
 ∃ (k j : Nat) (out : List Nat), j = 2 * k ∧ j ≤ n + 1 ∧ v4 = .int .i64 (j : Int) ∧ Nt.toL x = out ++ Nt.toL (x / 65536 ^ j) ∧ out.length = k ∧ Nt.Lm out ∧ wr.ownsRow w.heap.size 55 1 v3 k (u32s out) ∧ Below w.heap.size w wr
theorem limbs_any {w : World} {x : Nat} {a : Option Addr} {n c : Nat} (h : HAt w (Nh.toL x) a n c) (hsz : n ≤ 1099511627776) : Calls Try.prog 58 #[.slice a n c] w (NPost w x) := by
 have H := Lib.hid h
 have hn := Lib.hid h.len
 have hc := h.cap; have hle := h.le
 clear h
 obtain ⟨i0, hi0, hz0, hz1, hz2⟩ := info_parts info111
 go_enter Try.func58, Try.ntmps58
 go_wp2_with fail
 go_loopw [3, 4] (fun v3 v4 wr => LmL w x n v3 v4 wr) (fun _ v _ => n + 1 - (intOf v).toNat)
 case atStart => exact ⟨0, 0, [], rfl, by omega, rfl, by simp, rfl, fun y hy => by simp at hy, World.ownsRow_nil _ _ _ _, Below.refl _ _⟩
 case round =>
  obtain ⟨k, j, out, hj, hk, rfl, he, hL, hlm, hO, hB⟩ := hrel
  have HJ := Lib.hid hj
  have O := Lib.hid hO; have BR := Lib.hid hB; have HL := Lib.hid hL
  by_cases hlt : j < n
  ·obtain ⟨g, o, rfl, dd⟩ := H.out.at_ (by intro e; have := hn.out; rw [e] at this; simp at this; omega)
   have p := cell_later hB (Nat.le_refl _) (dd (j) (by rw [hn.out]; exact hlt))
   clear dd
   obtain ⟨d, hd⟩ : ∃ d, (Nh.toL x).getD (j) 0 = d := ⟨_, rfl⟩
   obtain ⟨f, hf⟩ : ∃ f, (Nh.toL x).getD (j + 1) 0 = f := ⟨_, rfl⟩
   have d1 : d < 65536 := by rw [← hd]; exact Nh.lm_getD H.out.lm _
   have f1 : f < 65536 := by rw [← hf]; exact Nh.lm_getD H.out.lm _
   have DG := hdigit_any (w := wr.drew) ((H.out.below hB).below (Below.refl _ _).drew) (j + 1) (by omega)
   rw [hf] at DG
   rw [hd] at p
   rw [show ((j + 1 : Nat) : Int) = (j : Int) + 1 from by omega] at DG
   have DG := Lib.hid DG
   obtain ⟨t, ht⟩ : ∃ t, d + 65536 * f = t := ⟨_, rfl⟩
   have J : bits .or .u32 (IntKind.u32.wrap (d : Int)) (IntKind.u32.wrap (IntKind.u32.wrap (f : Int) * 65536)) = (t : Int) := by
    rw [wraps_u32 (d : Int) (by omega) (by omega), wraps_u32 (f : Int) (by omega) (by omega), wraps_u32 ((f : Int) * 65536) (by omega) (by omega)]
    exact join_u32 d1 f1 ht
   obtain ⟨y, hy⟩ : ∃ y, x / 65536 ^ (j) = y := ⟨_, rfl⟩
   have y0 : y ≠ 0 := by
    intro e
    have x0 : x ≠ 0 := by intro q; subst q; have := hn.out; rw [Nh.toL_zero] at this; simp at this; omega
    have g1 := Nh.toL_ge x0
    rw [hn.out] at g1
    have g2 : 65536 ^ (j) ≤ 65536 ^ (n - 1) := Nat.pow_le_pow_right (by omega) (by omega)
    have := Nat.div_pos (Nat.le_trans g2 g1) (Nat.pow_pos (n := j) (show 0 < 65536 by omega))
    rw [hy, e] at this
    exact Nat.lt_irrefl _ this
   have ey : y % 4294967296 = t := by
    have a1 := digit_at x (j)
    have a2 := digit_at x (j + 1)
    rw [hd, hy] at a1
    rw [hf, Nat.pow_succ, ← Nat.div_div_eq_div_mul, hy] at a2
    omega
   have NX : Hid (Nt.toL x = (out ++ [t]) ++ Nt.toL (x / 65536 ^ ((j + 2)))) := by
    show _ = _
    have e2 : x / 65536 ^ ((j + 2)) = y / 4294967296 := by
     rw [← hy, Nat.div_div_eq_div_mul, Nat.pow_add]
    rw [e2, he, hy, Nt.toL_pos y0, ey]; simp
   have LT : Hid (Nt.Lm (out ++ [t])) := by
    intro z hz
    rcases List.mem_append.1 hz with q | q
    ·exact hlm z q
    ·simp at q; omega
   have tb : t < 4294967296 := by omega
   have k0 : (0 : Int) ≤ (j : Int) := by omega
   have k1 : (j : Int) < (n : Int) := by omega
   have wk : IntKind.i64.wrap ((j : Int) + 1) = (j : Int) + 1 := IntWalk.i64_in _ (by omega)
   have O2 := Lib.hid (hO.alloc (.cells #[.int .u32 (t : Int)] 55))
   have KP := Lib.hid (fun (W : World) (hB : Below wr.heap.size wr W) => (show W.cell? ⟨g, o + j, none⟩ = some (.int .i64 (d : Int)) from cell_later hB (Nat.le_refl _) p))
   have KQ := Lib.hid (fun (W : World) (hB' : Below w.heap.size w W) => (show W.cell? ⟨g, o + j, none⟩ = some (.int .i64 (d : Int)) from by
    obtain ⟨g', o', e', dd⟩ := H.out.at_ (by intro e; have := hn.out; rw [e] at this; simp at this; omega)
    simp only [Option.some.injEq, Addr.mk.injEq] at e'
    obtain ⟨rfl, rfl, _⟩ := e'
    have := cell_later hB' (Nat.le_refl _) (dd (j) (by rw [hn.out]; exact hlt))
    rw [hd] at this
    exact this))
   have kb : k ≤ 1099511627776 := by omega
   clear he hL hlm hO hB hd hf ht hy y0 ey hj
   go_upto_region 5 with fail
   refine Rg.wpD_start 15 [] (fun W => W.cell? ⟨g, o + j, none⟩ = some (.int .i64 (d : Int))) (by kernel_rfl) (by kernel_rfl) ?_ (fun hS ok inv => ?_)
   ·exact p
   refine Rg.tk 0 rfl ok inv hS fun inv => ?_
   refine Rg.tk 1 rfl ok inv hS fun inv => ?_
   refine Rg.tk 2 rfl ok inv hS fun inv => ?_
   refine Rg.tk 3 rfl ok inv hS fun inv => ?_
   refine Rg.tk 4 rfl ok inv hS fun inv => ?_
   refine Rg.tk 5 rfl ok inv hS fun inv => ?_
   refine Rg.tk 6 rfl ok inv hS fun inv => ?_
   refine Rg.tk 7 rfl ok inv hS fun inv => ?_
   refine Rg.tk 8 rfl ok inv hS fun inv => ?_
   refine Rg.w1 9 rfl inv fun K' hK => ?_
   go_simp
   go_at_call 73
   refine (DG.out).mono ?_
   rintro e w2 ⟨rfl, rfl⟩
   refine Rg.st hK ?_ fun hS inv => ?_
   ·exact hS
   clear hK K'
   refine Rg.tk 10 rfl ok inv hS fun inv => ?_
   refine Rg.tk 11 rfl ok inv hS fun inv => ?_
   refine Rg.tk 12 rfl ok inv hS fun inv => ?_
   refine Rg.w1 13 rfl inv fun K' hK => ?_
   (try simp only [zA, zB, zC])
   go_simp
   refine Rg.st hK ?_ fun hS inv => ?_
   ·exact KP.out _ (below_new _ _).drew
   clear hK K'
   refine Rg.w1 14 rfl inv fun K' hK => ?_
   refine wp_append_own _ _ _ 24 rfl w.heap.size 55 i0 (.int .u32 0) 1 4 Try.underlying24 hi0 hz0 hz1 hz2 rfl (by omega) u3 k (u32s out) rfl (show (wr.alloc (.cells #[.int .u32 (t : Int)] 55)).drew.ownsRow w.heap.size 55 1 u3 k (u32s out) from O2.out) ⟨wr.heap.size, 0, none⟩ 1 1 [.int .u32 (t : Int)] (by first | rfl | (simp only [Act.eval]; rfl)) rfl (one_u32_new wr t) (by intro u hu; simp at hu; rw [hu]; rfl) (by unfold maxLen; omega) (by omega) (by have := BR.out.size; simp; omega) ?_
   intro v' w1 hown1 hgrow1 hnil1
   rw [u32s_snoc] at hown1
   have OW := Lib.hid hown1; have BF := Lib.hid (below_appendT (wd := wr) (.cells #[.int .u32 (t : Int)] 55) BR.out O.out ⟨hgrow1.os, hgrow1.tape, hgrow1.output, hgrow1.size, hgrow1.block⟩)
   clear hnil1 hown1
   refine Rg.st hK ?_ fun hS inv => ?_
   ·exact KQ.out _ BF.out
   clear hK K'
   refine Rg.wl rfl ?_
   go_simp
   go_wp2_with fail
   go_roundw
   case rel => exact ⟨k + 1, j + 2, out ++ [t], by rw [HJ.out]; omega, by omega, by go_num, NX.out, by simp [HL.out], LT.out, OW.out, BF.out⟩
   case measure => simp [intOf]; omega
  ·have E : Hid (Nt.toL x = out) := by
    show _ = _
    have z : x / 65536 ^ (j) = 0 := by
     refine Nat.div_eq_of_lt ?_
     have h1 := Nh.vl_lt (Nh.toL_lm x)
     rw [Nh.vl_toL, hn.out] at h1
     exact Nat.lt_of_lt_of_le h1 (Nat.pow_le_pow_right (by omega) (by omega))
    rw [he, z, Nt.toL_zero, List.append_nil]
   obtain ⟨a2, c2, rfl, L2⟩ := own_lat hlm hL hO
   have L2 := Lib.hid L2
   clear he hO hB hlm hL
   go_wp2_with fail
   go_ret
   exact ⟨a2, k, c2, rfl, by rw [E.out]; exact L2.out, BR.out⟩
end Go.Proofs.Ytijdglogadnbcaa
