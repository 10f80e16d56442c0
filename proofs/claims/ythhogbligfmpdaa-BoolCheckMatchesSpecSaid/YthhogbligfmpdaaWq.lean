/- Bits; the reference's turned, uniform and alike. -/
import Derived.Test.YthhogbligfmpdaaWp
set_option linter.unusedVariables false
set_option linter.unusedSimpArgs false
namespace Go.Proofs.Ythhogbligfmpdaa
open Go.RowKit Bd

theorem bits_and_i64_nat (a b : Nat) (ha : a < 9223372036854775808) (hb : b < 9223372036854775808) : bits .and .i64 (a : Int) (b : Int) = ((a &&& b : Nat) : Int) := by
  have hx : a &&& b < 2 ^ 63 := Nat.and_lt_two_pow _ (by omega)
  have h1 : (BitVec.ofInt 64 (a : Int)).toNat = a := by
    rw [BitVec.ofInt_natCast, BitVec.toNat_ofNat]; exact Nat.mod_eq_of_lt (by omega)
  have h2 : (BitVec.ofInt 64 (b : Int)).toNat = b := by
    rw [BitVec.ofInt_natCast, BitVec.toNat_ofNat]; exact Nat.mod_eq_of_lt (by omega)
  show IntKind.i64.wrap ((BitVec.ofInt 64 (a : Int) &&& BitVec.ofInt 64 (b : Int)).toNat : Int) = _
  rw [BitVec.toNat_and, h1, h2]
  exact IntWalk.i64_in _ (by omega)

theorem bits_or_i64_nat (a b : Nat) (ha : a < 9223372036854775808) (hb : b < 9223372036854775808) : bits .or .i64 (a : Int) (b : Int) = ((a ||| b : Nat) : Int) := by
  have hx : a ||| b < 2 ^ 63 := Nat.or_lt_two_pow (by omega) (by omega)
  have h1 : (BitVec.ofInt 64 (a : Int)).toNat = a := by
    rw [BitVec.ofInt_natCast, BitVec.toNat_ofNat]; exact Nat.mod_eq_of_lt (by omega)
  have h2 : (BitVec.ofInt 64 (b : Int)).toNat = b := by
    rw [BitVec.ofInt_natCast, BitVec.toNat_ofNat]; exact Nat.mod_eq_of_lt (by omega)
  show IntKind.i64.wrap ((BitVec.ofInt 64 (a : Int) ||| BitVec.ofInt 64 (b : Int)).toNat : Int) = _
  rw [BitVec.toNat_or, h1, h2]
  exact IntWalk.i64_in _ (by omega)

/-- Bit v of x, as the walk writes it. -/
theorem bit_of (x v : Nat) (hx : x < 65536) : bits .and .i64 ((x : Int) / 2 ^ v) 1 = (((x.testBit v).toNat : Nat) : Int) := by
  have e : ((x : Int) / 2 ^ v) = ((x / 2 ^ v : Nat) : Int) := by simp
  have hle : x / 2 ^ v ≤ x := Nat.div_le_self _ _
  rw [e, show (1 : Int) = ((1 : Nat) : Int) from rfl, bits_and_i64_nat _ _ (by omega) (by omega)]
  congr 1
  rw [Nat.and_one_is_mod, Nat.testBit_eq_decide_div_mod_eq]
  have : x / 2 ^ v % 2 = 0 ∨ x / 2 ^ v % 2 = 1 := by omega
  rcases this with h | h <;> simp [h]

def rv (x : Nat) : Nat → Nat
  | 0 => 0
  | v + 1 => rv x v ||| ((x.testBit v).toNat * 2 ^ (15 - v))

theorem rv_lt (x : Nat) : ∀ v, rv x v < 2 ^ 16
  | 0 => by simp [rv]
  | v + 1 => by
    refine Nat.or_lt_two_pow (rv_lt x v) ?_
    have h1 : 2 ^ (15 - v) ≤ 2 ^ 15 := Nat.pow_le_pow_right (by omega) (by omega)
    have h2 : (2 : Nat) ^ 15 = 32768 := by decide
    have h3 : (2 : Nat) ^ 16 = 65536 := by decide
    cases x.testBit v <;> simp <;> omega

theorem rv_bit (x : Nat) : ∀ v, v ≤ 16 → ∀ j, (rv x v).testBit j = (decide (j < 16) && decide (15 < v + j) && x.testBit (15 - j))
  | 0, _, j => by
    by_cases h : j < 16
    · have : decide (15 < 0 + j) = false := by simp; omega
      rw [this]; simp [rv]
    · simp [rv, h]
  | v + 1, hv, j => by
    have ih := rv_bit x v (by omega) j
    simp only [rv, Nat.testBit_or, ih]
    have hb : ((x.testBit v).toNat * 2 ^ (15 - v)).testBit j = (x.testBit v && decide (j = 15 - v)) := by
      cases x.testBit v
      · simp
      · simp [Nat.testBit_two_pow, eq_comm]
    rw [hb]
    by_cases h16 : j < 16
    · by_cases hj : j = 15 - v
      · have h1 : ¬ 15 < v + j := by omega
        have h2 : 15 < v + 1 + j := by omega
        have h3 : 15 - j = v := by omega
        simp [h16, hj, h1, h2, h3]
        have : 15 - (15 - v) = v := by omega
        rw [this]
        have h4 : 15 < v + 1 + (15 - v) := by omega
        have h5 : 15 - v < 16 := by omega
        simp [h4, h5]
      · have : decide (15 < v + 1 + j) = decide (15 < v + j) := by
          rw [decide_eq_decide]; omega
        simp [h16, hj, this]
    · have hj : ¬ j = 15 - v := by omega
      simp [h16, hj]

theorem rv16 (x j : Nat) (hj : j < 16) : (rv x 16).testBit j = x.testBit (15 - j) := by
  rw [rv_bit x 16 (Nat.le_refl _) j]
  have : 15 < 16 + j := by omega
  simp [hj, this]

theorem turned_step (x y v : Nat) (hx : x < 65536) (hy : y < 65536) (hv : v < 16) : bits .or .i64 (y : Int) (wrap64 (bits .and .i64 ((x : Int) / 2 ^ v) 1 * 2 ^ (15 - v))) = ((y ||| ((x.testBit v).toNat * 2 ^ (15 - v)) : Nat) : Int) := by
  have h1 : 2 ^ (15 - v) ≤ 2 ^ 15 := Nat.pow_le_pow_right (by omega) (by omega)
  have h2 : (2 : Nat) ^ 15 = 32768 := by decide
  have h3 : (x.testBit v).toNat * 2 ^ (15 - v) ≤ 32768 := by cases x.testBit v <;> simp <;> omega
  rw [bit_of x v hx]
  have e : (((x.testBit v).toNat : Nat) : Int) * 2 ^ (15 - v) = (((x.testBit v).toNat * 2 ^ (15 - v) : Nat) : Int) := by simp
  rw [e, IntWalk.wrap64_in _ (by omega)]
  exact bits_or_i64_nat _ _ (by omega) (by omega)

set_option maxRecDepth 100000 in
set_option maxHeartbeats 400000 in
theorem turned_any (x : Nat) (w : World) (hx : x < 65536) :
    Calls Try.prog 50 #[.int .i64 x] w fun e w' => e = .returned (.int .i64 (rv x 16 : Nat)) ∧ w = w' := by
  go_enter Try.func50, Try.ntmps50
  go_wp2_with fail
  go_loop [3, 4] (fun o i => ∃ v : Nat, v ≤ 16 ∧ i = .int .i64 v ∧ o = .int .i64 (rv x v : Nat)) (fun _ i => 16 - (intOf i).toNat)
  case atStart => exact ⟨0, by omega, rfl, rfl⟩
  case round =>
    obtain ⟨v, hv, rfl, rfl⟩ := hrel
    have hlt2 := rv_lt x v
    have h3 : (2 : Nat) ^ 16 = 65536 := by decide
    rw [h3] at hlt2
    clear h3
    by_cases hlt : v < 16
    · have hst := Lib.hid (turned_step x (rv x v) v hx hlt2 hlt)
      go_wp2_with fail
      go_round
      case rel => exact ⟨v + 1, by omega, by go_num, by rw [hst.out]; rfl⟩
      case measure => simp [intOf]; omega
    · obtain rfl : v = 16 := by omega
      go_wp2_with fail
      go_ret
      exact ⟨rfl, rfl⟩

/-- A table lies from this cell on. -/
def TAt (w : World) (t : List Bool) (b o : Nat) : Prop := ∀ i, i < t.length → w.cell? ⟨b, o + i, none⟩ = some (.bool (t.getD i false))

theorem TAt.drewN {w : World} {t : List Bool} {b o : Nat} (h : TAt w t b o) (n : Nat) : TAt (w.drewN n) t b o := h
theorem TAt.block {w w' : World} {t : List Bool} {b o : Nat} (h : TAt w t b o) (hb : w'.heap[b]? = w.heap[b]?) : TAt w' t b o := fun i hi => (World.cell?_of_block (a := ⟨b, o + i, none⟩) hb).trans (h i hi)

def uni (t : List Bool) : Bool := t.all (· == t.getD 0 false)

/-- The first k entries are alike. -/
def UR (t : List Bool) (w : World) (i : Value) (wr : World) : Prop := ∃ k : Nat, 1 ≤ k ∧ k ≤ t.length ∧ i = .int .i64 k ∧ (∀ j, j < k → t.getD j false = t.getD 0 false) ∧ ∃ q, wr = w.drewN q

theorem uni_true {t : List Bool} (h : ∀ j, j < t.length → t.getD j false = t.getD 0 false) : uni t = true := by
  unfold uni
  rw [List.all_eq_true]
  intro x hx
  obtain ⟨j, hj, rfl⟩ := List.mem_iff_getElem.1 hx
  have := h j hj
  rw [List.getD_eq_getElem?_getD, List.getElem?_eq_getElem hj] at this
  simpa using this
theorem uni_false {t : List Bool} {j : Nat} (hj : j < t.length) (h : t.getD j false ≠ t.getD 0 false) : uni t = false := by
  unfold uni
  rw [List.all_eq_false]
  refine ⟨t[j], List.getElem_mem hj, ?_⟩
  rw [List.getD_eq_getElem?_getD, List.getElem?_eq_getElem hj] at h
  simpa using h

set_option maxRecDepth 100000 in
set_option maxHeartbeats 400000 in
theorem uniform_any (t : List Bool) (b o cap : Nat) (w : World) (h : TAt w t b o) (h1 : 1 ≤ t.length) (h2 : t.length ≤ 65536) :
    Calls Try.prog 82 #[.slice (some ⟨b, o, none⟩) t.length cap] w fun e w' => e = .returned (.bool (uni t)) ∧ ∃ q, w' = w.drewN q := by
  have H := Lib.hid h; clear h
  go_enter Try.func82, Try.ntmps82
  go_wp2_with fail
  go_loopw [3] (fun i wr => UR t w i wr) (fun i _ => t.length - (intOf i).toNat)
  case atStart =>
    refine ⟨1, by omega, h1, rfl, fun j hj => ?_, 0, rfl⟩
    obtain rfl : j = 0 := by omega
    rfl
  case round =>
    obtain ⟨k, hk1, hk, rfl, hall, q, rfl⟩ := hrel
    have HA := Lib.hid hall; clear hall
    by_cases hlt : k < t.length
    · have c0 := H.out 0 (by omega)
      have ck := H.out k hlt
      have i1 : (k : Int) < (t.length : Int) := by omega
      have i2 : (0 : Int) < (t.length : Int) := by omega
      have i3 : (0 : Int) ≤ (k : Int) := by omega
      simp only [Nat.add_zero] at c0
      obtain ⟨x, hx⟩ : ∃ x, t.getD k false = x := ⟨_, rfl⟩
      obtain ⟨y, hy⟩ : ∃ y, t.getD 0 false = y := ⟨_, rfl⟩
      rw [hx] at ck
      rw [hy] at c0
      have HX := Lib.hid hx; clear hx
      have HY := Lib.hid hy; clear hy
      by_cases hxy : x = y
      · have hb : (!(x == y)) = false := by simp [hxy]
        have HXY := Lib.hid hxy; clear hxy
        go_wp2_with fail
        go_quiet (fail)
        go_wp2_with fail
        go_roundw
        case rel =>
          refine ⟨k + 1, by omega, by omega, by go_num, fun j hj => ?_, _, rfl⟩
          by_cases hjk : j < k
          · exact HA.out j hjk
          · obtain rfl : j = k := by omega
            rw [HX.out, HY.out, HXY.out]
        case measure => simp [intOf]; omega
      · have hb : (!(x == y)) = true := by simp [hxy]
        have hu := uni_false hlt (by rw [HX.out, HY.out]; exact hxy)
        have HU := Lib.hid hu; clear hu hxy
        go_wp2_with fail
        go_quiet (fail)
        go_wp2_with fail
        go_ret
        exact ⟨by rw [HU.out]; rfl, q + nq, (World.drewN_drewN _ _ _)⟩
    · have hu := uni_true (t := t) fun j hj => HA.out j (by omega)
      have HU := Lib.hid hu; clear hu
      go_wp2_with fail
      go_ret
      exact ⟨by rw [HU.out]; rfl, _, rfl⟩

/-- The first k entries agree. -/
def AR (s t : List Bool) (w : World) (i : Value) (wr : World) : Prop := ∃ k : Nat, k ≤ s.length ∧ i = .int .i64 k ∧ (∀ j, j < k → s.getD j false = t.getD j false) ∧ ∃ q, wr = w.drewN q

theorem alike_true {s t : List Bool} (hl : s.length = t.length) (h : ∀ j, j < s.length → s.getD j false = t.getD j false) : (s == t) = true := by
  rw [beq_iff_eq]
  refine List.ext_getElem hl fun j h1 h2 => ?_
  have := h j h1
  rw [List.getD_eq_getElem?_getD, List.getElem?_eq_getElem h1, List.getD_eq_getElem?_getD, List.getElem?_eq_getElem h2] at this
  simpa using this
theorem alike_false {s t : List Bool} {j : Nat} (h : s.getD j false ≠ t.getD j false) : (s == t) = false := by
  rw [beq_eq_false_iff_ne]
  intro e
  exact h (by rw [e])

set_option maxRecDepth 100000 in
set_option maxHeartbeats 400000 in
theorem alike_any (s t : List Bool) (b o c b' o' c' : Nat) (w : World) (h : TAt w s b o) (h' : TAt w t b' o') (hl : s.length = t.length) (h2 : s.length ≤ 65536) :
    Calls Try.prog 83 #[.slice (some ⟨b, o, none⟩) s.length c, .slice (some ⟨b', o', none⟩) t.length c'] w fun e w' => e = .returned (.bool (s == t)) ∧ ∃ q, w' = w.drewN q := by
  have H := Lib.hid h; clear h
  have H' := Lib.hid h'; clear h'
  have hne : ((s.length : Int) != (t.length : Int)) = false := by simp [hl]
  have HL := Lib.hid hl; clear hl
  go_enter Try.func83, Try.ntmps83
  go_wp2_with fail
  go_loopw [5] (fun i wr => AR s t w i wr) (fun i _ => s.length - (intOf i).toNat)
  case atStart => exact ⟨0, by omega, rfl, fun j hj => by omega, 0, rfl⟩
  case round =>
    obtain ⟨k, hk, rfl, hall, q, rfl⟩ := hrel
    have HA := Lib.hid hall; clear hall
    by_cases hlt : k < s.length
    · have ck := H.out k hlt
      have dk := H'.out k (by rw [← HL.out]; exact hlt)
      have i1 : (k : Int) < (s.length : Int) := by omega
      have i2 : (k : Int) < (t.length : Int) := by rw [← HL.out]; omega
      have i2n : k < t.length := by omega
      have i3 : (0 : Int) ≤ (k : Int) := by omega
      obtain ⟨x, hx⟩ : ∃ x, s.getD k false = x := ⟨_, rfl⟩
      obtain ⟨y, hy⟩ : ∃ y, t.getD k false = y := ⟨_, rfl⟩
      rw [hx] at ck
      rw [hy] at dk
      have HX := Lib.hid hx; clear hx
      have HY := Lib.hid hy; clear hy
      by_cases hxy : x = y
      · have hb : (!(x == y)) = false := by simp [hxy]
        have HXY := Lib.hid hxy; clear hxy
        go_wp2_with fail
        go_quiet (fail)
        go_wp2_with fail
        go_roundw
        case rel =>
          refine ⟨k + 1, by omega, by go_num, fun j hj => ?_, _, rfl⟩
          by_cases hjk : j < k
          · exact HA.out j hjk
          · obtain rfl : j = k := by omega
            rw [HX.out, HY.out, HXY.out]
        case measure => simp [intOf]; omega
      · have hb : (!(x == y)) = true := by simp [hxy]
        have hu := alike_false (s := s) (t := t) (j := k) (by rw [HX.out, HY.out]; exact hxy)
        have HU := Lib.hid hu; clear hu hxy
        go_wp2_with fail
        go_quiet (fail)
        go_wp2_with fail
        go_ret
        exact ⟨by rw [HU.out]; rfl, q + nq, (World.drewN_drewN _ _ _)⟩
    · have hu := alike_true HL.out fun j hj => HA.out j (by omega)
      have HU := Lib.hid hu; clear hu
      go_wp2_with fail
      go_ret
      exact ⟨by rw [HU.out]; rfl, _, rfl⟩

end Go.Proofs.Ythhogbligfmpdaa
