/- nat.Shl, nat.DivSmall, nat.Of. -/
import Derived.Test.YtijdglogadnbcaaZ02
import Derived.Deep.RegionHeld3
set_option linter.unusedVariables false
set_option linter.unusedSimpArgs false
set_option maxRecDepth 100000
set_option maxHeartbeats 40000000
namespace Go.Proofs.Ytijdglogadnbcaa
open Go.RowKit Nt
theorem or64 (a b : Nat) (ha : a < 18446744073709551616) (hb : b < 18446744073709551616) : bits .or .u64 (a : Int) (b : Int) = ((a ||| b : Nat) : Int) :=
 (bits_nat .u64 64 (by decide) wraps_u64 a b ha hb).2
theorem or32 (a b : Nat) (ha : a < 4294967296) (hb : b < 4294967296) : bits .or .u32 (a : Int) (b : Int) = ((a ||| b : Nat) : Int) :=
 (bits_nat .u32 32 (by decide) wraps_u32 a b ha hb).2
theorem join64 (r x : Nat) (hr : r < 4294967296) (hx : x < 4294967296) : bits .or .u64 ((r : Int) * 4294967296) (x : Int) = ((r * 4294967296 + x : Nat) : Int) := by
 rw [show (r : Int) * 4294967296 = ((r * 4294967296 : Nat) : Int) from by omega, or64 _ _ (by omega) (by omega)]
 congr 1
 have := or_low (s := 32) (x := x) (m := r) (by omega)
 rw [Nat.or_comm, show r * 4294967296 = 2 ^ 32 * r from by omega, this]
 omega
def DsL (w : World) (g : Nat) (la : List Nat) (d n : Nat) (rest i : Value) (wr : World) : Prop :=
 ∃ (k : Nat) (out : List Nat) (r : Nat), k ≤ n ∧ i = .int .i64 ((k : Int) - 1) ∧ rest = .int .u64 (r : Int) ∧ DsI la d k out r ∧ UB wr g out ∧ Below w.heap.size w wr
/-- A quotient and a rest. -/
def DmPost (w : World) (x d : Nat) (e : Ending) (w' : World) : Prop :=
 ∃ a n c, e = .returned (.tuple #[.slice a n c, .int .u32 ((x % d : Nat) : Int)]) ∧ LAt w' (toL (x / d)) a n c ∧ Below w.heap.size w w'
theorem divSmall_any {w : World} {la : List Nat} {a : Option Addr} {na ca d : Nat} (ha : LAt w la a na ca) (hsz : na ≤ 1099511627776) (hd : 0 < d) (hd2 : d < 4294967296) :
  Calls Try.prog 75 #[.slice a na ca, .int .u32 (d : Int)] w (DmPost w (vl la) d) := by
 have A := Lib.hid ha
 have hca := ha.cap; have hlal := ha.le
 clear ha
 obtain ⟨i0, hi0, hz0, hz1, hz2⟩ := info_parts info111
 go_enter Try.func75, Try.ntmps75
 go_wp2_with (at_make; refine wpList_make_full _ rfl _ _ 24 rfl 0 55 i0 (.int .u32 0) 1 Try.underlying24 hi0 hz0 hz1 .i64 .i64 _ _ na rfl rfl (by omega) (by omega) (by rw [hz2]; omega) (by unfold maxLen; omega) (Nat.zero_le _) ?_; intro w1 hown1 hg1; have U1 := Lib.hid (ub_made hown1); have B1 := Lib.hid (below_grown hg1); clear hown1 hg1)
 go_loopw [7, 8] (fun r i wr => DsL w w.heap.size la d na r i wr) (fun _ i _ => (intOf i + 1).toNat)
 case atStart => exact ⟨na, _, 0, Nat.le_refl _, rfl, rfl, by have := DsI.nil (a := la) hd; rwa [A.out.len] at this, U1.out, B1.out⟩
 case round =>
  obtain ⟨k, out, r, hk, rfl, rfl, hD, hU, hB⟩ := hrel
  have D := Lib.hid hD; have U := Lib.hid hU; have BR := Lib.hid hB
  have rlt := hD.lt
  clear hD hU hB
  by_cases h0 : k = 0
  ·subst h0
   have L : Hid (LAt wr out (some ⟨w.heap.size, 0, none⟩) na na) := ⟨U.out.at_, by rw [D.out.len, A.out.len], Nat.le_refl _, by omega, D.out.lm⟩
   have V := Lib.hid D.out.done
   go_wp2_with (go_at_call 55; refine (trim_at L.out).mono ?_; rintro e w' ⟨rfl, rfl⟩)
   go_ret2
   exact ⟨_, _, _, by rw [V.out.2]; rfl, by rw [← V.out.1]; exact L.out.trim, BR.out⟩
  ·obtain ⟨m, rfl⟩ : ∃ m, k = m + 1 := ⟨k - 1, by omega⟩
   have e1 : ((m + 1 : Nat) : Int) - 1 = (m : Int) := by omega
   rw [e1]
   clear e1
   obtain ⟨b1, o1, rfl, d1⟩ := A.out.at_ (by intro e; have := A.out.len; rw [e] at this; simp at this; omega)
   have p1 := cell_later BR.out (Nat.le_refl _) (d1 m (by rw [A.out.len]; omega))
   clear d1
   obtain ⟨x, hx⟩ : ∃ x, la.getD m 0 = x := ⟨_, rfl⟩
   have xb : x < 4294967296 := by rw [← hx]; exact lm_getD A.out.lm m
   rw [hx] at p1
   have HX := Lib.hid hx; clear hx
   have p3 := U.out.cell (i := m) (by rw [D.out.len, A.out.len]; omega)
   have f3 := U.out.free m
   have hnz : ((d : Int) == 0) = false := by simp; omega
   obtain ⟨t, ht⟩ : ∃ t, r * 4294967296 + x = t := ⟨_, rfl⟩
   have hor := join64 r x (by omega) xb
   rw [ht] at hor
   have tb : (t : Int) ≤ 18446744073709551615 := by omega
   have ft := ds_fits A.out.lm (i := m) rlt hd2
   rw [HX.out, ht] at ft
   have FT := Lib.hid ft
   have HT := Lib.hid ht; clear ht ft
   have hd3 : (1 : Int) ≤ (d : Int) := by omega
   go_wp2_with fail
   go_roundw
   case rel =>
    have e1 : (t : Int) % (d : Int) = ((t % d : Nat) : Int) := rfl
    have e2 : IntKind.u64.wrap ((t : Int) / (d : Int)) % 4294967296 = ((t / d : Nat) : Int) := by
     have h2 := FT.out.2
     obtain ⟨q, hq⟩ : ∃ q, t / d = q := ⟨_, rfl⟩
     rw [show (t : Int) / (d : Int) = ((t / d : Nat) : Int) from rfl, hq, IntKind.wrap_u64]
     rw [hq] at h2
     omega
    rw [e1, e2]
    refine ⟨m, out.set m (t / d), t % d, by omega, rfl, rfl, ?_, U.out.set m _, BR.out.setCell (Nat.le_refl _) _⟩
    have := D.out.step A.out.lm (by rw [A.out.len]; omega) hd2
    rwa [HX.out, HT.out] at this
   case measure => simp [intOf]
def ShL (w : World) (g : Nat) (la : List Nat) (s k n : Nat) (i : Value) (wr : World) : Prop :=
 ∃ (j : Nat) (out : List Nat), j ≤ n ∧ i = .int .i64 (j : Int) ∧ ShI la s k j out ∧ UB wr g out ∧ Below w.heap.size w wr
theorem shl_any {w : World} {la : List Nat} {a : Option Addr} {na ca s : Nat} (ha : LAt w la a na ca) (hsz : na ≤ 1099511627776) (hs : s < 32) (h0 : 0 < na) :
  Calls Try.prog 77 #[.slice a na ca, .int .i64 (s : Int)] w (NPost w (vl la * 2 ^ s)) := by
 have A := Lib.hid ha
 have hca := ha.cap; have hlal := ha.le
 clear ha
 obtain ⟨i0, hi0, hz0, hz1, hz2⟩ := info_parts info111
 have q1 : (s : Int) / 32 = 0 := by omega
 have q2 : (s : Int) % 32 = (s : Int) := by omega
 have hnz : ((na : Int) == 0) = false := by simp; omega
 go_enter Try.func77, Try.ntmps77
 go_wp2_with (at_make; refine wpList_make_full _ rfl _ _ 24 rfl 0 55 i0 (.int .u32 0) 1 Try.underlying24 hi0 hz0 hz1 .i64 .i64 _ _ (na + 1) rfl rfl (by omega) (by omega) (by rw [hz2]; omega) (by unfold maxLen; omega) (Nat.zero_le _) ?_; intro w1 hown1 hg1; have U1 := Lib.hid (ub_made hown1); have B1 := Lib.hid (below_grown hg1); clear hown1 hg1)
 go_loopw [21] (fun i wr => ShL w w.heap.size la s 0 na i wr) (fun i _ => na - (intOf i).toNat)
 case atStart => exact ⟨0, _, Nat.zero_le _, rfl, by have := ShI.nil la s 0; exact this, by rw [A.out.len]; exact U1.out, B1.out⟩
 case round =>
  obtain ⟨i, out, hi, rfl, hS, hU, hB⟩ := hrel
  have S := Lib.hid hS; have U := Lib.hid hU; have BR := Lib.hid hB
  clear hS hU hB
  by_cases hlt : i < na
  ·obtain ⟨b1, o1, rfl, d1⟩ := A.out.at_ (by intro e; have := A.out.len; rw [e] at this; simp at this; omega)
   have p1 := cell_later BR.out (Nat.le_refl _) (d1 i (by rw [A.out.len]; exact hlt))
   clear d1
   obtain ⟨x, hx⟩ : ∃ x, la.getD i 0 = x := ⟨_, rfl⟩
   have xb : x < 4294967296 := by rw [← hx]; exact lm_getD A.out.lm i
   rw [hx] at p1
   have HX := Lib.hid hx; clear hx
   have p2 := U.out.cell (i := i) (by rw [S.out.len, A.out.len]; omega)
   have f2 := U.out.free i
   have p3 := U.out.cell (i := i + 1) (by rw [S.out.len, A.out.len]; omega)
   have f3 := U.out.free (i + 1)
   obtain ⟨u, hu⟩ : ∃ u, out.getD i 0 = u := ⟨_, rfl⟩
   obtain ⟨v, hv⟩ : ∃ v, out.getD (i + 1) 0 = v := ⟨_, rfl⟩
   rw [hu] at p2
   rw [hv] at p3
   have ub : u < 4294967296 := by rw [← hu]; exact lm_getD S.out.lm i
   have V0 : Hid (v = 0) := by show _ = _; rw [← hv]; exact S.out.zero (i + 1) (by omega) (by rw [A.out.len]; omega)
   have HU := Lib.hid hu; clear hu hv
   go_wp2_with fail
   go_roundw
   case rel =>
    have pw : x * 2 ^ s < 18446744073709551616 := by
     have a1 : 2 ^ s ≤ 2 ^ 31 := Nat.pow_le_pow_right (by omega) (by omega)
     have a2 : x * 2 ^ s ≤ 4294967295 * 2 ^ 31 := Nat.mul_le_mul (by omega) a1
     omega
    have e0 : IntKind.u64.wrap ((x : Int) * 2 ^ s) = ((x * 2 ^ s : Nat) : Int) := by
     rw [show (x : Int) * 2 ^ s = ((x * 2 ^ s : Nat) : Int) from by rw [Int.natCast_mul, Int.natCast_pow]; rfl]
     exact wraps_u64 _ (by omega) (by omega)
    have e1 : bits .or .u32 (u : Int) (IntKind.u64.wrap ((x : Int) * 2 ^ s) % 4294967296) = ((u ||| x * 2 ^ s % 4294967296 : Nat) : Int) := by
     rw [e0, show ((x * 2 ^ s : Nat) : Int) % 4294967296 = ((x * 2 ^ s % 4294967296 : Nat) : Int) from rfl]
     exact or32 _ _ ub (Nat.mod_lt _ (by omega))
    have e2 : bits .or .u32 (v : Int) (IntKind.u64.wrap ((x : Int) * 2 ^ s) / 4294967296 % 4294967296) = ((0 ||| x * 2 ^ s / 4294967296 : Nat) : Int) := by
     rw [V0.out, e0, show ((x * 2 ^ s : Nat) : Int) / 4294967296 % 4294967296 = ((x * 2 ^ s / 4294967296 : Nat) : Int) from by omega]
     exact or32 _ _ (by omega) (by omega)
    rw [e1, e2]
    refine ⟨i + 1, _, by omega, by go_num, ?_, (U.out.set i _).set (i + 1) _, (BR.out.setCell (Nat.le_refl _) _).setCell (Nat.le_refl _) _⟩
    have := S.out.step A.out.lm hs (by rw [A.out.len]; exact hlt)
    simp only [Nat.add_zero] at this
    rwa [HX.out, HU.out] at this
   case measure => simp [intOf]; omega
  ·obtain rfl : i = na := by omega
   have L : Hid (LAt wr out (some ⟨w.heap.size, 0, none⟩) (i + 1) (i + 1)) := ⟨U.out.at_, by rw [S.out.len, A.out.len], Nat.le_refl _, by omega, S.out.lm⟩
   have V : Hid (vl out = vl la * 2 ^ s) := by
    have := S.out
    rw [← A.out.len] at this
    have := this.done
    rwa [Nat.mul_zero, Nat.zero_add] at this
   go_wp2_with (go_at_call 55; refine (trim_at L.out).mono ?_; rintro e w' ⟨rfl, rfl⟩)
   go_ret
   exact NPost.of_trim L.out BR.out V.out
theorem Below.over {a b c : World} (h : Below a.heap.size a b) (hs : a.heap.size ≤ b.heap.size) (k : Below b.heap.size b c) : Below a.heap.size a c := h.trans (k.mono hs)
theorem cast_shr (t s : Nat) : (t : Int) / 2 ^ s % 4294967296 = ((t / 2 ^ s % 4294967296 : Nat) : Int) := by
 rw [Int.natCast_emod, Int.natCast_ediv, Int.natCast_pow]; rfl
def SrL (w : World) (g : Nat) (la : List Nat) (s n : Nat) (i : Value) (wr : World) : Prop :=
 ∃ (j : Nat), j ≤ n ∧ i = .int .i64 (j : Int) ∧ UB wr g ((shr s la).take j ++ (List.replicate n 0).drop j) ∧ Below w.heap.size w wr
/-- What Shr leaves. -/
def SrPost (w : World) (x : Nat) (e : Ending) (w' : World) : Prop :=
 ∃ a n c b, e = .returned (.tuple #[.slice a n c, .bool b]) ∧ LAt w' (toL x) a n c ∧ Below w.heap.size w w'
theorem shr_none {w : World} {c s : Nat} {a : Option Addr} (hs : s < 32) (hc : c ≤ 9223372036854775807) :
  Calls Try.prog 79 #[.slice a 0 c, .int .i64 (s : Int)] w (SrPost w 0) := by
 have q1 : (s : Int) / 32 = 0 := by omega
 go_enter Try.func79, Try.ntmps79
 go_wp2_with fail
 go_ret2
 exact ⟨none, 0, 0, true, rfl, ⟨fun h => absurd toL_zero h, by rw [toL_zero]; rfl, Nat.le_refl _, by omega, toL_lm 0⟩, Below.refl _ _⟩
theorem lat_nil (w : World) (a : Option Addr) {c : Nat} (hc : c ≤ 9223372036854775807) : LAt w [] a 0 c := ⟨fun h => absurd rfl h, rfl, Nat.zero_le _, hc, fun x hx => by simp at hx⟩
theorem trim_nil (w : World) (a : Option Addr) {c : Nat} (hc : c ≤ 9223372036854775807) : Calls Try.prog 55 #[.slice a 0 c] w fun e w' => e = .returned (.slice a 0 c) ∧ w = w' := by
 refine (trim_at (lat_nil w a hc)).mono ?_
 rintro e w' ⟨rfl, rfl⟩
 refine ⟨?_, rfl⟩
 unfold trm; rw [show vl [] = 0 from rfl, toL_zero]; rfl
def ClNil (w : World) (e : Ending) (w' : World) : Prop := ∃ a c, c ≤ 9223372036854775807 ∧ e = .returned (.slice a 0 c) ∧ Below w.heap.size w w'
theorem clone_nil (w : World) (a : Option Addr) {c : Nat} (hc : c ≤ 9223372036854775807) : Calls Try.prog 35 #[.slice a 0 c] w (ClNil w) := by
 refine (clone_any (lat_nil w a hc) (by omega)).mono ?_
 rintro e w' ⟨a2, c2, rfl, L, B, _⟩
 exact ⟨a2, c2, L.cap, rfl, B⟩
theorem shr_some {w : World} {la : List Nat} {a : Option Addr} {na ca s : Nat} (ha : LAt w la a na ca) (hsz : na ≤ 1099511627776) (hs : s < 32) (h0 : 0 < na) :
  Calls Try.prog 79 #[.slice a na ca, .int .i64 (s : Int)] w (SrPost w (vl la / 2 ^ s)) := by
 have A := Lib.hid ha
 have hca := ha.cap; have hlal := ha.le
 obtain ⟨b1, o1, rfl, d1⟩ := ha.at_ (by intro e; have := ha.len; rw [e] at this; simp at this; omega)
 have p0 := d1 0 (by rw [ha.len]; exact h0)
 rw [Nat.add_zero] at p0
 have D1 := Lib.hid d1; clear d1
 obtain ⟨x0, hx0⟩ : ∃ x, la.getD 0 0 = x := ⟨_, rfl⟩
 rw [hx0] at p0
 clear ha hx0
 obtain ⟨i0, hi0, hz0, hz1, hz2⟩ := info_parts info111
 have q1 : (s : Int) / 32 = 0 := by omega
 have q2 : (s : Int) % 32 = (s : Int) := by omega
 have h0i : (0 : Int) < (na : Int) := by omega
 have q3 : (s : Int).tmod 32 = (s : Int) := by rw [Int.tmod_eq_emod_of_nonneg (by omega)]; omega
 have q4 : (0 : Int) ≤ (s : Int) := by omega
 have q5 : (s : Int) ≤ 64 := by omega
 go_enter Try.func79, Try.ntmps79
 go_wp2_with fail
 go_region_held3 (fun W => W.cell? ⟨b1, o1, none⟩ = some (.int .u32 (x0 : Int)) ∧ Below w.heap.size w W)
  (first
   | exact ⟨p0, (Below.refl _ _).drew⟩
   | exact ⟨y0, y1⟩
   | go_keep)
  (first
   | (go_at_call 35; refine (clone_nil _ _ hca).mono ?_; rintro e w2 ⟨a2, c2, hc2, rfl, hb2⟩; have y0 : w2.cell? ⟨b1, o1, none⟩ = some (.int .u32 (x0 : Int)) := cell_later hb2 (Nat.le_refl _) p0; have y1 : Below w.heap.size w w2 := Below.over (Below.refl _ _).drew (Nat.le_refl _) hb2)
   | (go_at_call 55; refine (trim_nil _ _ hc2).mono ?_; rintro e w2 ⟨rfl, rfl⟩))
 go_wp2_with (at_make; refine wpList_make_full _ rfl _ _ 24 rfl 0 55 i0 (.int .u32 0) 1 Try.underlying24 hi0 hz0 hz1 .i64 .i64 _ _ na rfl rfl (by omega) (by omega) (by rw [hz2]; omega) (by unfold maxLen; omega) (Nat.zero_le _) ?_; intro w1 hown1 hg1; have U1 := Lib.hid (ub_made hown1); have B1 := Lib.hid (below_grown hg1); clear hown1 hg1)
 have B2 : Hid (Below w.heap.size w w1) := Below.over y1 y1.size B1.out
 have hg : Hid (w.heap.size ≤ w2.heap.size) := y1.size
 clear y0 hb2 p0
 have Y1 := Lib.hid y1; clear y1
 go_loopw [44] (fun i wr => SrL w w2.heap.size la s na i wr) (fun i _ => na - (intOf i).toNat)
 case atStart => exact ⟨0, Nat.zero_le _, rfl, U1.out, B2.out⟩
 case round =>
  obtain ⟨j, hj, rfl, hU, hB⟩ := hrel
  have U := Lib.hid hU; have BR := Lib.hid hB
  clear hU hB
  by_cases hlt : j < na
  ·have p1 := cell_later BR.out (Nat.le_refl _) (D1.out j (by rw [A.out.len]; exact hlt))
   obtain ⟨x, hx⟩ : ∃ x, la.getD j 0 = x := ⟨_, rfl⟩
   have xb : x < 4294967296 := by rw [← hx]; exact lm_getD A.out.lm j
   rw [hx] at p1
   have HX := Lib.hid hx; clear hx
   have SL : Hid (((shr s la).take j).length = j) := by show _ = _; rw [List.length_take, shr_length, A.out.len]; omega
   have p3 := U.out.cell (i := j) (by rw [List.length_append, SL.out, List.length_drop, List.length_replicate]; omega)
   have f3 := U.out.free j
   obtain ⟨u, hu⟩ : ∃ u, ((shr s la).take j ++ (List.replicate na 0).drop j).getD j 0 = u := ⟨_, rfl⟩
   rw [hu] at p3
   clear hu
   have fin : Hid (∀ t : Nat, t = x + 4294967296 * la.getD (j + 1) 0 → ∀ v : Int, v = ((t / 2 ^ s % 4294967296 : Nat) : Int) → SrL w w2.heap.size la s na (.int .i64 ((j : Int) + 1)) (wr.setCell ⟨w2.heap.size, j, none⟩ (.int .u32 v))) := by
    intro t ht v hv
    subst hv
    refine ⟨j + 1, by omega, by go_num, ?_, BR.out.setCell hg.out _⟩
    have := U.out.set j (t / 2 ^ s % 4294967296)
    rw [set_mid SL.out (by rw [List.length_replicate]; exact hlt)] at this
    rw [take_last (by rw [shr_length, A.out.len]; exact hlt), shr_getD s la (by rw [A.out.len]; exact hlt), HX.out, ← ht]
    exact this
   by_cases hj2 : j + 1 < na
   ·have p2 := cell_later BR.out (Nat.le_refl _) (D1.out (j + 1) (by rw [A.out.len]; exact hj2))
    obtain ⟨z, hz⟩ : ∃ z, la.getD (j + 1) 0 = z := ⟨_, rfl⟩
    have zb : z < 4294967296 := by rw [← hz]; exact lm_getD A.out.lm (j + 1)
    rw [hz] at p2
    have HZ := Lib.hid hz; clear hz
    obtain ⟨t, ht⟩ : ∃ t, x + 4294967296 * z = t := ⟨_, rfl⟩
    have hor : bits .or .u64 (x : Int) ((z : Int) * 4294967296) = (t : Int) := by
     rw [u64_or32 _ _ (by omega) (by omega) (by omega) (by omega) (by omega)]; omega
    have tb : t < 18446744073709551616 := by omega
    have HT := Lib.hid ht; clear ht
    go_wp2_with fail
    go_roundw
    case rel => exact fin.out t (by rw [HZ.out, HT.out]) _ (cast_shr t s)
    case measure => simp [intOf]; omega
   ·have Z0 : Hid (la.getD (j + 1) 0 = 0) := by
     show _ = _
     rw [List.getD_eq_getElem?_getD, List.getElem?_eq_none (by rw [A.out.len]; omega)]; rfl
    have hj3 : (na : Int) ≤ (j : Int) + 1 := by omega
    go_wp2_with fail
    go_roundw
    case rel => exact fin.out x (by rw [Z0.out]; omega) _ (cast_shr x s)
    case measure => simp [intOf]; omega
  ·obtain rfl : j = na := by omega
   have SL : Hid ((shr s la).length = j) := by show _ = _; rw [shr_length, A.out.len]
   have D : Hid ((shr s la).take j ++ (List.replicate j 0).drop j = shr s la) := by show _ = _; rw [List.drop_of_length_le (by simp), List.append_nil, List.take_of_length_le (by rw [SL.out]; exact Nat.le_refl _)]
   have L : Hid (LAt wr (shr s la) (some ⟨w2.heap.size, 0, none⟩) j j) := ⟨(D.out ▸ U.out).at_, SL.out, Nat.le_refl _, by omega, shr_lm s la⟩
   have V : Hid (vl (shr s la) = vl la / 2 ^ s) := vl_shr hs A.out.lm
   go_wp2_with (go_at_call 55; refine (trim_at L.out).mono ?_; rintro e w' ⟨rfl, rfl⟩)
   go_ret2
   exact ⟨_, _, _, _, rfl, by rw [← V.out]; exact L.out.trim, BR.out⟩
theorem shr_any {w : World} {la : List Nat} {a : Option Addr} {na ca s : Nat} (ha : LAt w la a na ca) (hsz : na ≤ 1099511627776) (hs : s < 32) :
  Calls Try.prog 79 #[.slice a na ca, .int .i64 (s : Int)] w (SrPost w (vl la / 2 ^ s)) := by
 by_cases h : na = 0
 ·subst h
  have e : la = [] := List.length_eq_zero_iff.1 ha.len
  subst e
  have := shr_none (w := w) (a := a) hs ha.cap
  simpa [vl] using this
 ·exact shr_some ha hsz hs (by omega)
end Go.Proofs.Ytijdglogadnbcaa
