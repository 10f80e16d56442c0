/- nat.DivMod, nat.Gcd. -/
import Derived.Test.YtijdglogadnbcaaZ05
import Derived.Deep.LoopGhost
set_option linter.unusedVariables false
set_option linter.unusedSimpArgs false
set_option maxRecDepth 100000
set_option maxHeartbeats 40000000
namespace Go.Proofs.Ytijdglogadnbcaa
open Go.RowKit Nt
theorem toL_norm {z k : Nat} (h1 : 4294967296 ^ k * 2147483648 ≤ z) (h2 : z < 4294967296 ^ (k + 1)) : (toL z).length = k + 1 ∧ 2147483648 ≤ (toL z).getD k 0 := by
 have l1 := toL_len h2
 have p : 0 < 4294967296 ^ k := Nat.pos_of_ne_zero (by simp)
 have l2 : ¬ (toL z).length ≤ k := fun hle => by
  have := vl_lt (toL_lm z)
  rw [vl_toL] at this
  have h3 : 4294967296 ^ (toL z).length ≤ 4294967296 ^ k := Nat.pow_le_pow_right (by omega) hle
  have h4 : 4294967296 ^ k * 1 ≤ 4294967296 ^ k * 2147483648 := Nat.mul_le_mul_left _ (by omega)
  omega
 have l : (toL z).length = k + 1 := by omega
 refine ⟨l, ?_⟩
 have e := vl_take_succ (toL z) k
 rw [List.take_of_length_le (by omega), vl_toL] at e
 have lt := vl_take_lt (toL_lm z) k
 refine Nat.le_of_not_lt fun hlt => ?_
 have := Nat.mul_le_mul_left (4294967296 ^ k) (show (toL z).getD k 0 + 1 ≤ 2147483648 by omega)
 rw [Nat.mul_add] at this
 omega
/-- The divisor, shifted so that its highest bit is set. -/
theorem shifted {y n t : Nat} (hn : (toL y).length = n + 1) (ht : (toL y).getD n 0 = t) (h0 : t ≠ 0) (hb : t < 4294967296) :
  (toL (y * 2 ^ (32 - Nh.blen t))).length = n + 1 ∧ 2147483648 ≤ (toL (y * 2 ^ (32 - Nh.blen t))).getD n 0 := by
 obtain ⟨lo, h1, h2⟩ := toL_split hn
 rw [ht, ← pow32] at h2
 rw [← pow32] at h1
 have b1 := Nh.blen_ge h0
 have b2 := Nh.blen_lt t
 have b3 : Nh.blen t ≤ 32 := Nh.blen_le.2 hb
 have b4 : 0 < Nh.blen t := by rw [Nh.blen_pos h0]; omega
 have p := Nat.two_pow_pos (32 - Nh.blen t)
 have e1 : 2 ^ (Nh.blen t - 1) * 2 ^ (32 - Nh.blen t) = 2147483648 := by rw [← Nat.pow_add, show Nh.blen t - 1 + (32 - Nh.blen t) = 31 from by omega]
 have e2 : 2 ^ Nh.blen t * 2 ^ (32 - Nh.blen t) = 4294967296 := by rw [← Nat.pow_add, show Nh.blen t + (32 - Nh.blen t) = 32 from by omega]
 refine toL_norm ?_ ?_
 ·rw [h2, Nat.add_mul, Nat.mul_assoc]
  have := Nat.mul_le_mul_left (4294967296 ^ n) (Nat.mul_le_mul_right (2 ^ (32 - Nh.blen t)) b1)
  rw [e1] at this
  omega
 ·have e3 : 4294967296 ^ (n + 1) = 4294967296 ^ n * 2 ^ Nh.blen t * 2 ^ (32 - Nh.blen t) := by rw [Nat.pow_succ, Nat.mul_assoc, e2]
  rw [e3]
  refine Nat.mul_lt_mul_of_pos_right ?_ p
  rw [h2]
  have := Nat.mul_le_mul_left (4294967296 ^ n) (show t + 1 ≤ 2 ^ Nh.blen t from b2)
  rw [Nat.mul_add] at this
  omega
/-- A quotient and a remainder in new memory. -/
def DvPost (w : World) (x y : Nat) (e : Ending) (w' : World) : Prop :=
 ∃ a n c a2 n2 c2, e = .returned (.tuple #[.slice a n c, .slice a2 n2 c2]) ∧ LAt w' (toL (x / y)) a n c ∧ LAt w' (toL (x % y)) a2 n2 c2 ∧ Below w.heap.size w w'
theorem Qt.size {a b : World} (h : Qt a b) : b.heap.size = a.heap.size := by obtain ⟨q, rfl⟩ := h; rfl
theorem LAt.qt {w w' : World} {l : List Nat} {a : Option Addr} {n c : Nat} (h : LAt w l a n c) (q : Qt w w') : LAt w' l a n c := h.below q.below
theorem below_qt {a b c : World} (q : Qt a b) (h : Below b.heap.size b c) : Below a.heap.size a c := Below.over q.below (by rw [q.size]; exact Nat.le_refl _) h
theorem divmod_lt {w : World} {x y : Nat} {a b : Option Addr} {na nb ca cb : Nat} (ha : LAt w (toL x) a na ca) (hb : LAt w (toL y) b nb cb) (hsz : na ≤ 1099511627776) (hlt : x < y) :
  Calls Try.prog 59 #[.slice a na ca, .slice b nb cb] w (DvPost w x y) := by
 have A := Lib.hid ha; have B := Lib.hid hb
 clear ha hb
 have CM : Hid (cmpN x y = -1) := by show _ = _; unfold cmpN; rw [if_pos hlt]
 have Q0 : Hid (x / y = 0) := Nat.div_eq_of_lt hlt
 have Q1 : Hid (x % y = x) := Nat.mod_eq_of_lt hlt
 clear hlt
 go_enter Try.func59, Try.ntmps59
 go_wp2_with fail
 refine (compare_any A.out B.out).mono ?_
 rintro e w1 ⟨rfl, hq⟩
 rw [CM.out]
 have HQ := Lib.hid hq; clear hq
 go_wp2_with fail
 refine (clone_any (A.out.qt HQ.out) hsz).mono ?_
 rintro e w2 ⟨a2, c2, rfl, L2, B2, _⟩
 have L2 := Lib.hid L2; have B2 := Lib.hid B2
 go_wp2_with fail
 go_ret2
 exact ⟨none, 0, 0, a2, na, c2, rfl, by rw [Q0.out, toL_zero]; exact lat_nil _ _ (by omega), by rw [Q1.out]; exact L2.out, below_qt HQ.out B2.out⟩
theorem divmod_one {w : World} {x y : Nat} {a b : Option Addr} {na ca cb : Nat} (ha : LAt w (toL x) a na ca) (hb : LAt w (toL y) b 1 cb) (hsz : na ≤ 1099511627776) (hle : y ≤ x) :
  Calls Try.prog 59 #[.slice a na ca, .slice b 1 cb] w (DvPost w x y) := by
 have A := Lib.hid ha; have B := Lib.hid hb
 have hcb := hb.cap; have hlb := hb.le
 obtain ⟨b1, o1, rfl, d1⟩ := hb.at_ (by intro e; have := hb.len; rw [e] at this; simp at this)
 have p1 := d1 0 (by rw [hb.len]; omega)
 rw [Nat.add_zero] at p1
 have ye : (toL y).getD 0 0 = y := by
  have := vl_toL y
  obtain ⟨z, hz⟩ := List.length_eq_one_iff.1 hb.len
  rw [hz] at this ⊢
  simpa [vl] using this
 have y0 : y ≠ 0 := by intro e; have := hb.len; rw [e, toL_zero] at this; simp at this
 rw [ye] at p1
 have yb : y < 4294967296 := by rw [← ye]; exact lm_getD (toL_lm y) 0
 clear ha hb d1 ye
 have CM : Hid (0 ≤ cmpN x y) := by show _ ≤ _; unfold cmpN; rw [if_neg (by omega)]; split <;> omega
 obtain ⟨cm, hcm⟩ : ∃ cm, cmpN x y = cm := ⟨_, rfl⟩
 have cm0 : 0 ≤ cm := by rw [← hcm]; exact CM.out
 have HCM := Lib.hid hcm; clear hcm
 have VX : Hid (vl (toL x) = x) := vl_toL x
 have y1 : 0 < y := by omega
 obtain ⟨r, hr⟩ : ∃ r, x % y = r := ⟨_, rfl⟩
 have rb : r < 4294967296 := by rw [← hr]; exact Nat.lt_trans (Nat.mod_lt _ y1) yb
 have RM := Lib.hid hr; clear hr
 go_enter Try.func59, Try.ntmps59
 go_wp2_with fail
 refine (compare_any A.out B.out).mono ?_
 rintro e w1 ⟨rfl, hq⟩
 rw [HCM.out]
 have p2 := hq.cell p1
 have HQ := Lib.hid hq
 clear hq p1
 go_wp2_with fail
 refine (divSmall_any (A.out.qt HQ.out) hsz y1 yb).mono ?_
 rintro e w2 ⟨a2, n2, c2, rfl, L2, B2⟩
 rw [VX.out] at L2 ⊢
 rw [RM.out]
 have L2 := Lib.hid L2; have B2 := Lib.hid B2
 go_wp2_with fail
 refine (of_any r (by omega) _).mono ?_
 rintro e w3 ⟨a3, n3, c3, rfl, L3, B3⟩
 have L3 := Lib.hid L3; have B3 := Lib.hid B3
 go_wp2_with fail
 go_ret2
 exact ⟨a2, n2, c2, a3, n3, c3, rfl, L2.out.below B3.out, by rw [RM.out]; exact L3.out, below_qt HQ.out (Below.over B2.out B2.out.size B3.out)⟩
def DvL (w2 : World) (g gq U : Nat) (v : List Nat) (n m : Nat) (i : Value) (wr : World) : Prop :=
 ∃ (j : Nat) (us qs : List Nat), j ≤ m ∧ i = .int .i64 ((j : Int) - 1) ∧ qs.length = m ∧ DvI U v us qs n j ∧ UB wr g us ∧ UB wr gq qs ∧ Below w2.heap.size w2 wr
theorem below_but {g n : Nat} {w w' : World} (h : But g w w') (hg : n ≤ g) (hn : n ≤ w.heap.size) : Below n w w' :=
 ⟨h.os, h.tape, h.output, h.size, fun k hk => h.block k (by omega) (by intro e; simp at e; omega)⟩
theorem But.ub {g k : Nat} {w w' : World} {l : List Nat} (h : But g w w') (hk : k ≠ g) (u : UB w k l) : UB w' k l := (h.block k u.lt (by simpa using hk)).trans u
theorem splice_pad (l : List Nat) (n : Nat) (h : l.length ≤ n) : splice (u32s (List.replicate n 0)) 0 (u32s l) = u32s (l ++ List.replicate (n - l.length) 0) := by
 unfold splice u32s
 simp
theorem split3 (l : List Nat) (k m : Nat) : l.take k ++ (l.drop k).take m ++ l.drop (k + m) = l := by
 rw [List.append_assoc, ← List.drop_drop, List.take_append_drop, List.take_append_drop]
theorem LAt.block_lt {w : World} {l : List Nat} {a : Option Addr} {n c : Nat} (h : LAt w l a n c) (h0 : 0 < n) : ∀ ad, a = some ad → ad.block < w.heap.size := by
 intro ad e
 obtain ⟨b, o, e2, d⟩ := h.at_ (by intro q; have := h.len; rw [q] at this; simp at this; omega)
 rw [e2] at e
 obtain rfl := Option.some.inj e
 exact lt_of_cell (d 0 (by rw [h.len]; exact h0))
theorem UB.other {w : World} {g k i : Nat} {l : List Nat} {v : Value} (h : UB w g l) (hne : g ≠ k) : UB (w.setCell ⟨k, i, none⟩ v) g l := (heap_setCell_other w _ _ _ hne).trans h
theorem divmod_big {w : World} {x y : Nat} {a b : Option Addr} {na nb ca cb : Nat} (ha : LAt w (toL x) a na ca) (hb : LAt w (toL y) b (nb + 1) cb) (hsz : na ≤ 1099511627775) (hle : y ≤ x) (h2 : 1 ≤ nb) :
  Calls Try.prog 59 #[.slice a na ca, .slice b (nb + 1) cb] w (DvPost w x y) := by
 have A := Lib.hid ha; have B := Lib.hid hb
 have hcb := hb.cap; have hlb := hb.le; have hca := ha.cap; have hla := ha.le
 have hlen : nb + 1 ≤ na := by rw [← ha.len, ← hb.len]; exact toL_len_le hle
 obtain ⟨b1, o1, rfl, d1⟩ := hb.at_ (by intro e; have := hb.len; rw [e] at this; simp at this)
 have p1 := d1 nb (by rw [hb.len]; omega)
 have y0 : y ≠ 0 := by intro e; have := hb.len; rw [e, toL_zero] at this; simp at this
 obtain ⟨t, ht⟩ : ∃ t, (toL y).getD nb 0 = t := ⟨_, rfl⟩
 have tb : t < 4294967296 := by rw [← ht]; exact lm_getD (toL_lm y) nb
 have t0 : t ≠ 0 := by have := toL_top_ne y0; rw [hb.len, Nat.add_sub_cancel, ht] at this; exact this
 rw [ht] at p1
 obtain ⟨s, hs⟩ : ∃ s, 32 - Nh.blen t = s := ⟨_, rfl⟩
 have sh0 := shifted hb.len ht t0 tb
 rw [hs] at sh0
 have bl1 : Nh.blen t ≤ 32 := Nh.blen_le.2 tb
 have bl2 : 0 < Nh.blen t := by rw [Nh.blen_pos t0]; omega
 have s31 : s ≤ 31 := by omega
 have SE : Hid ((32 : Int) - ((Lib.bitLen ((t : Int).toNat) : Nat) : Int) = (s : Int)) := by
  show _ = _
  rw [Int.toNat_natCast, bitLen_blen t (by omega)]; omega
 obtain ⟨V, hV⟩ : ∃ V, y * 2 ^ s = V := ⟨_, rfl⟩
 rw [hV] at sh0
 have SH := Lib.hid sh0
 have VV : Hid (vl (toL y) * 2 ^ s = V) := by show _ = _; rw [vl_toL]; exact hV
 have VX : Hid (vl (toL x) * 2 ^ s = x * 2 ^ s) := by show _ = _; rw [vl_toL]
 have HV := Lib.hid hV
 clear ha hb d1 ht hs bl1 bl2 t0 hV y0 sh0
 have CM : Hid (0 ≤ cmpN x y) := by show _ ≤ _; unfold cmpN; rw [if_neg (by omega)]; split <;> omega
 obtain ⟨cm, hcm⟩ : ∃ cm, cmpN x y = cm := ⟨_, rfl⟩
 have cm0 : 0 ≤ cm := by rw [← hcm]; exact CM.out
 have HCM := Lib.hid hcm; clear hcm
 have HLE := Lib.hid hle; clear hle
 have n1 : (((nb + 1 : Nat) : Int) == 1) = false := by simp; omega
 have n1' : ((nb : Int) + 1 == 1) = false := by simp; omega
 obtain ⟨i0, hi0, hz0, hz1, hz2⟩ := info_parts info111
 go_enter Try.func59, Try.ntmps59
 go_wp2_with fail
 refine (compare_any A.out B.out).mono ?_
 rintro e w1 ⟨rfl, hq⟩
 rw [HCM.out]
 have p2 := hq.cell p1
 have HQ := Lib.hid hq
 clear hq p1
 go_wp2_with fail
 have LZ := Try.bits_LeadingZeros32 (t : Int) w1 (by omega) (by omega)
 rw [SE.out] at LZ
 refine LZ.mono ?_
 clear LZ
 rintro e w' ⟨rfl, rfl⟩
 go_wp2_with fail
 refine (shl_any (B.out.qt HQ.out) (by omega) (by omega) (by omega)).mono ?_
 rintro e w2 ⟨av, nv, cv, rfl, LV, B2⟩
 rw [VV.out] at LV
 obtain rfl : nv = nb + 1 := by rw [← LV.len]; exact SH.out.1
 have hcv := LV.cap; have hlv := LV.le
 have B2 := Lib.hid (below_qt HQ.out B2)
 have LV := Lib.hid LV
 clear p2
 go_wp2_with (at_make; refine wpList_make_full _ rfl _ _ 24 rfl 0 55 i0 (.int .u32 0) 1 Try.underlying24 hi0 hz0 hz1 .i64 .i64 _ _ (na + 1) rfl rfl (by omega) (by omega) (by rw [hz2]; omega) (by unfold maxLen; omega) (Nat.zero_le _) ?_; intro w3 hown1 hg1; have U3 := Lib.hid (ub_made hown1); have B3 := Lib.hid (below_grown hg1); clear hown1 hg1)
 have A3 := Lib.hid ((A.out.below B2.out).below B3.out)
 refine (shl_any A3.out (by omega) (by omega) (by omega)).mono ?_
 rintro e w4 ⟨a4, n4, c4, rfl, L4, B4⟩
 rw [VX.out] at L4
 have hc4 := L4.cap; have hl4 := L4.le
 have U4 := Lib.hid (U3.out.later B4 (by have := U3.out.lt; omega))
 have B4 := Lib.hid (Below.over B3.out B3.out.size B4)
 have L4 := Lib.hid L4
 have n4b : n4 ≤ na + 1 := by
  rw [← L4.out.len]
  refine toL_len ?_
  have h1 := vl_lt (toL_lm x)
  rw [vl_toL, A.out.len] at h1
  rw [Nat.pow_succ]
  have h2 : 2 ^ s < 4294967296 := Nat.lt_of_le_of_lt (Nat.pow_le_pow_right (by omega) s31) (by decide)
  exact Nat.mul_lt_mul'' h1 h2
 clear U3
 go_wp2_with (first
  | ((with_reducible show wpList _ _ _ (⟨some 52, _, _, _, _, _⟩ :: _) _ _); refine wpList_copy_splice (o := ⟨some 52, _, _, _, _, _⟩) rfl (.tmp 48) (.tmp 51) 24 24 rfl 55 Try.underlying24 hsz111 (some ⟨w2.heap.size, 0, none⟩) a4 (na + 1) (na + 1) n4 c4 rfl rfl w2.heap.size 0 (u32s (List.replicate (na + 1) 0)) 55 U4.out (u32s (toL (x * 2 ^ s))) (by rw [u32s_length, L4.out.len]; exact (Nat.min_eq_left n4b).symm) (fun h0 => ⟨rfl, L4.out.src (Below.refl _ _) h0⟩) (by rw [u32s_length, u32s_length, List.length_replicate, L4.out.len]; omega) (u32s_one _) w2.heap.size w2 B4.out (Nat.le_refl _) ?_; intro w5 HG5 hb5; have B5 := Lib.hid hb5; clear hb5)
  | (at_make; refine wpList_make_full _ rfl _ _ 24 rfl 0 55 i0 (.int .u32 0) 1 Try.underlying24 hi0 hz0 hz1 .i64 .i64 _ _ (na - nb) rfl rfl (by omega) (by omega) (by rw [hz2]; omega) (by unfold maxLen; omega) (Nat.zero_le _) ?_; intro w6 hown6 hg6; have U6 := Lib.hid (ub_made hown6); have B6 := Lib.hid (below_grown hg6); clear hown6 hg6))
 have U5 : Hid (UB w5 w2.heap.size (toL (x * 2 ^ s) ++ List.replicate (na + 1 - n4) 0)) := by
  show UB _ _ _
  have := HG5.out
  rw [splice_pad _ _ (by rw [L4.out.len]; exact n4b), L4.out.len] at this
  exact this
 have U5' := Lib.hid (U5.out.later B6.out U5.out.lt)
 have B6 := Lib.hid (Below.over B5.out B5.out.size B6.out)
 have gq : w2.heap.size < w5.heap.size := U5.out.lt
 have N4 := Lib.hid L4.out.len
 clear U4 HG5 B5 L4 B4 A3 B3 U5
 have ST : Hid (DvI (x * 2 ^ s) (toL V) (toL (x * 2 ^ s) ++ List.replicate (na + 1 - n4) 0) (List.replicate (na - nb) 0) (nb + 1) (na - nb)) := by
  have h1 := vl_lt (toL_lm x)
  rw [vl_toL, A.out.len] at h1
  have := DvI.start (y := y) (us := toL (x * 2 ^ s) ++ List.replicate (na + 1 - n4) 0) (v := toL V) (n := nb + 1) h1 s31 (lm_append (toL_lm _) (lm_replicate _)) (by rw [List.length_append, List.length_replicate, N4.out]; omega) (by rw [vl_append, vl_replicate, vl_toL, Nat.mul_zero, Nat.add_zero]) (toL_lm V) SH.out.1 (by omega) hlen SH.out.2
  rwa [show na + 1 - (nb + 1) = na - nb from by omega] at this
 go_loopw [12] (fun i wr => DvL w2 w2.heap.size w5.heap.size (x * 2 ^ s) (toL V) (nb + 1) (na - nb) i wr) (fun i _ => (intOf i + 1).toNat)
 case atStart => exact ⟨na - nb, _, _, Nat.le_refl _, by congr 1, by rw [List.length_replicate], ST.out, U5'.out, U6.out, B6.out⟩
 case round =>
  obtain ⟨j, us, qs, hj, rfl, hql, hD, hU, hQ2, hB⟩ := hrel
  have D := Lib.hid hD; have U := Lib.hid hU; have QU := Lib.hid hQ2; have BR := Lib.hid hB; have QL := Lib.hid hql
  clear hD hU hQ2 hB hql
  by_cases h0 : j = 0
  ·subst h0
   have DN := Lib.hid D.out.done
   have pv : Hid (0 < 2 ^ s) := Nat.two_pow_pos s
   have LU : Hid (LAt wr us (some ⟨w2.heap.size, 0, none⟩) (na + 1) (na + 1)) := ⟨U.out.at_, by rw [D.out.len, QL.out]; omega, Nat.le_refl _, by omega, D.out.lu⟩
   have VU : Hid (vl (toL (vl us)) / 2 ^ s = x % y) := by
    show _ = _
    rw [vl_toL, DN.out.2, vl_toL, ← HV.out, Nat.mul_mod_mul_right, Nat.mul_div_cancel _ pv.out]
   have VQ : Hid (vl qs = x / y) := by
    show _ = _
    rw [DN.out.1, vl_toL, ← HV.out, Nat.mul_div_mul_right _ _ pv.out]
   have LT := Lib.hid LU.out.trim
   have tl : (trm us).length ≤ 1099511627776 := by have := trm_len_le D.out.lu; have := LU.out.len; omega
   go_wp2_with fail
   refine (trim_at LU.out).mono ?_
   rintro e w' ⟨rfl, rfl⟩
   go_wp2_with fail
   refine (shr_any LT.out tl (by omega)).mono ?_
   rintro e w7 ⟨a7, n7, c7, b7, rfl, L7, B7⟩
   rw [VU.out] at L7
   have LQ : Hid (LAt w7 qs (some ⟨w5.heap.size, 0, none⟩) (na - nb) (na - nb)) := ⟨(QU.out.later B7 QU.out.lt).at_, QL.out, Nat.le_refl _, by omega, D.out.lq⟩
   have L7 := Lib.hid L7; have B7 := Lib.hid B7
   go_wp2_with fail
   refine (trim_at LQ.out).mono ?_
   rintro e w' ⟨rfl, rfl⟩
   go_wp2_with fail
   go_ret2
   exact ⟨_, _, _, a7, n7, c7, rfl, by rw [← VQ.out]; exact LQ.out.trim, L7.out, Below.over B2.out B2.out.size (Below.over BR.out BR.out.size B7.out)⟩
  ·obtain ⟨k, rfl⟩ : ∃ k, j = k + 1 := ⟨j - 1, by omega⟩
   have e1 : ((k + 1 : Nat) : Int) - 1 = (k : Int) := by omega
   rw [e1]
   clear e1
   have hcap : ¬ (na + 1 = k) := by omega
   have hk1 : (k : Int) + ((nb : Int) + 1) + 1 ≤ (na : Int) + 1 := by omega
   have hk2 : (0 : Int) ≤ (k : Int) := by omega
   have DD := Lib.hid (D.out.digit (toL_lm V) SH.out.1 (by omega) SH.out.2 (by rw [QL.out]; omega))
   have DB : Hid (DgB wr w2.heap.size (us.take k) ((us.drop k).take (nb + 1 + 1)) (us.drop (k + (nb + 1) + 1))) := by
    show UB _ _ _
    rw [Nat.add_assoc k, split3]; exact U.out
   have PL : Hid ((us.take k).length = k) := by show _ = _; rw [List.length_take, D.out.len, QL.out]; omega
   have LV2 := Lib.hid (LV.out.below BR.out)
   have BLV := Lib.hid (LV.out.block_lt (by omega))
   go_wp2_with fail
   rw [show k + (nb + 1) + 1 - k = nb + 1 + 1 from by omega]
   refine (digit_any DD.out.1 DB.out PL.out LV2.out.at_ (fun ad e => by have := BLV.out ad e; omega) (by omega) (by omega) hlv hcv (by omega)).mono ?_
   rintro e w6 ⟨rfl, hbut, rem, hrl, hrm, hrv, hrd⟩
   have BT := Lib.hid hbut
   have QU2 := Lib.hid (hbut.ub (by omega) QU.out)
   have p3 := QU2.out.cell (i := k) (by rw [QL.out]; omega)
   have f3 := QU2.out.free k
   have RD := Lib.hid hrd
   have ST2 := Lib.hid (D.out.step (toL_lm V) SH.out.1 (by omega) SH.out.2 (by rw [QL.out]; omega) hrm hrl hrv)
   clear hbut hrl hrm hrv hrd
   obtain ⟨d, hd⟩ : ∃ d, vl ((us.drop k).take (nb + 1 + 1)) / vl (toL V) = d := ⟨_, rfl⟩
   rw [hd] at ST2
   rw [hd]
   go_wp2_with fail
   go_roundw
   case rel =>
    refine ⟨k, _, _, by omega, rfl, ?_, ST2.out, UB.other (by have := RD.out; unfold DgB at this; rwa [Nat.add_assoc] at this ⊢) (by omega), QU2.out.set k d, ?_⟩
    ·rw [List.length_set]; exact QL.out
    ·exact (BR.out.trans (below_but BT.out (Nat.le_refl _) (BR.out.size))).setCell (by show w2.heap.size ≤ w5.heap.size; omega) _
   case measure => simp [intOf]
theorem divmod_any {w : World} {x y : Nat} {a b : Option Addr} {na nb ca cb : Nat} (ha : LAt w (toL x) a na ca) (hb : LAt w (toL y) b nb cb) (hsz : na ≤ 1099511627775) (h0 : y ≠ 0) :
  Calls Try.prog 59 #[.slice a na ca, .slice b nb cb] w (DvPost w x y) := by
 by_cases hlt : x < y
 ·exact divmod_lt ha hb (by omega) hlt
 ·have hp := toL_pos_len h0
  rw [hb.len] at hp
  by_cases h1 : nb = 1
  ·subst h1; exact divmod_one ha hb (by omega) (by omega)
  ·obtain ⟨m, rfl⟩ : ∃ m, nb = m + 1 := ⟨nb - 1, by omega⟩
   exact divmod_big ha hb hsz (by omega) (by omega)
def GcL (w : World) (x y : Nat) (k : Nat) (v0 v1 : Value) (wr : World) : Prop :=
 ∃ (p q : Nat) (a : Option Addr) (n c : Nat) (b : Option Addr) (m d : Nat), v0 = .slice a n c ∧ v1 = .slice b m d ∧ q ≤ k ∧ LAt wr (toL p) a n c ∧ LAt wr (toL q) b m d ∧ Nat.gcd p q = Nat.gcd x y ∧ n ≤ 1099511627775 ∧ m ≤ 1099511627775 ∧ Below w.heap.size w wr
theorem gcd_any {w : World} {x y : Nat} {a b : Option Addr} {na nb ca cb : Nat} (ha : LAt w (toL x) a na ca) (hb : LAt w (toL y) b nb cb) (hsz : na ≤ 1099511627775) (hszb : nb ≤ 1099511627775) :
  Calls Try.prog 41 #[.slice a na ca, .slice b nb cb] w (NPost w (Nat.gcd x y)) := by
 have S : Hid (GcL w x y y (.slice a na ca) (.slice b nb cb) w) := ⟨x, y, a, na, ca, b, nb, cb, rfl, rfl, Nat.le_refl _, ha, hb, rfl, hsz, hszb, Below.refl _ _⟩
 clear ha hb hsz hszb
 go_enter Try.func41, Try.ntmps41
 go_wp2_with fail
 go_loopg [0, 1] y (fun k v0 v1 wr => GcL w x y k v0 v1 wr)
 case atStart => exact S.out
 case round =>
  obtain ⟨p, q, a, n, c, b, m, d, rfl, rfl, hk, hp, hq, hg, h1, h2, hB⟩ := hrel
  have P := Lib.hid hp; have Q := Lib.hid hq; have G := Lib.hid hg; have BR := Lib.hid hB
  clear hp hq hg hB
  by_cases h0 : m = 0
  ·have q0 : q = 0 := by
    have e0 : toL q = [] := List.length_eq_zero_iff.1 (by rw [Q.out.len]; exact h0)
    have := vl_toL q
    rw [e0] at this; exact this.symm
   have GP : Hid (p = Nat.gcd x y) := by show _ = _; rw [← G.out, q0, Nat.gcd_zero_right]
   subst h0
   clear q0
   go_wp2_with fail
   refine (clone_any P.out (by omega)).mono ?_
   rintro e w2 ⟨a2, c2, rfl, L2, B2, _⟩
   have L2 := Lib.hid L2; have B2 := Lib.hid B2
   go_wp2_with fail
   go_ret
   exact ⟨a2, n, c2, rfl, by rw [← GP.out]; exact L2.out, Below.over BR.out BR.out.size B2.out⟩
  ·have q0 : q ≠ 0 := by intro e; have := Q.out.len; rw [e, toL_zero] at this; simp at this; omega
   have m0 : (0 : Int) < (m : Int) := by omega
   have lt : p % q < q := Nat.mod_lt _ (by omega)
   have G2 : Hid (Nat.gcd q (p % q) = Nat.gcd x y) := by
    show _ = _
    rw [← G.out, Nat.gcd_comm p q, Nat.gcd_rec q p, Nat.gcd_comm]
   go_wp2_with fail
   refine (divmod_any P.out Q.out h1 q0).mono ?_
   rintro e w2 ⟨a2, n2, c2, a3, n3, c3, rfl, L2, L3, B2⟩
   have L3 := Lib.hid L3; have B2 := Lib.hid B2
   clear L2
   have n3b : n3 ≤ 1099511627775 := by
    rw [← L3.out.len]
    have := toL_len_le (Nat.le_of_lt lt)
    rw [Q.out.len] at this
    omega
   go_wp2_with fail
   go_roundg (p % q)
   case rel => exact ⟨q, p % q, b, m, d, a3, n3, c3, rfl, rfl, Nat.le_refl _, Q.out.below B2.out, L3.out, G2.out, h2, n3b, Below.over BR.out BR.out.size B2.out⟩
   case measure => omega
end Go.Proofs.Ytijdglogadnbcaa
