/- Build. -/
import Derived.Test.YthhogbligfmpdaaWk
set_option linter.unusedVariables false
set_option linter.unusedSimpArgs false
namespace Go.Proofs.Ythhogbligfmpdaa
open Go.RowKit Bd

def bldNodes (F : Fm) : List Nd := if boolErr F = 0 then outNodes (tl (evF F)) else []
def bldRoot (F : Fm) : Int := if boolErr F = 0 then outRoot (tl (evF F)) else 0
def bldErr (F : Fm) : Int := if boolErr F = 0 then outErr (tl (evF F)) else boolErr F

/-- A diagram and an error are handed back. -/
def DEPost (w : World) (O : List Nd) (r er : Int) (e : Ending) (w' : World) : Prop :=
  ∃ a cap, e = .returned (.tuple #[.agg #[.slice a O.length cap, .int .i64 r], .int .i64 er]) ∧ DNew w.heap.size w' O a ∧ Below w.heap.size w w'

theorem boolErr_zero {F : Fm} (h : boolErr F = 0) : cnt F ≤ 300 ∧ fault F = 0 := by
  unfold boolErr at h
  by_cases hc : 300 < cnt F
  · simp [hc] at h
  · rw [if_neg hc] at h
    exact ⟨by omega, h⟩

/-- Of two new blocks. -/
theorem two_new (w : World) (o1 o2 : Obj) : ∀ W, W = (w.alloc o1).alloc o2 → W.heap[w.heap.size]? = some o1 ∧ W.heap[w.heap.size + 1]? = some o2 ∧ W.heap.size = w.heap.size + 2 ∧ Below w.heap.size w W := by
  rintro W rfl
  have n1 := heap_alloc_new w o1
  have n2 := heap_alloc_new (w.alloc o1) o2
  simp only [World.size_alloc] at n2
  refine ⟨?_, n2, by simp, ((Below.refl _ _).alloc (Nat.le_refl _) _).alloc (by simp) _⟩
  rw [Below.heap_alloc _ _ _ (by simp)]; exact n1

theorem cells3 {w : World} {b : Nat} {x y z : Value} {t : TypeId} (h : w.heap[b]? = some (.cells #[x, y, z] t (0, 0))) : w.cell? ⟨b, 0, none⟩ = some x ∧ w.cell? ⟨b, 1, none⟩ = some y ∧ w.cell? ⟨b, 2, none⟩ = some z := by simp [World.cell?, h]
theorem cells2 {w : World} {b : Nat} {x y : Value} {t : TypeId} (h : w.heap[b]? = some (.cells #[x, y] t (0, 0))) : w.cell? ⟨b, 0, none⟩ = some x ∧ w.cell? ⟨b, 1, none⟩ = some y ∧ w.frozen? ⟨b, 0, none⟩ = false ∧ w.frozen? ⟨b, 1, none⟩ = false := by simp [World.cell?, World.frozen?, h]

set_option maxRecDepth 100000 in
set_option maxHeartbeats 1000000 in
theorem Build_any {w0 : World} {F : Fm} {a : Option Addr} (h : FmAt w0 F a) (cap : Nat) (w : World) (hB : Below w0.heap.size w0 w) :
    Calls Try.prog 13 #[.agg #[.int .i64 F.op, .int .i64 F.var, .slice a F.kids.length cap]] w (DEPost w (bldNodes F) (bldRoot F) (bldErr F)) := by
  have C1 := Lib.hid (checkBool_any h)
  have C2 := Lib.hid (build_any h)
  clear h
  obtain ⟨x1, x2, x3, x4⟩ := two_new w (.cells #[.int .i64 F.op, .int .i64 F.var, .slice a F.kids.length cap] 24) (.cells #[.slice none 0 0, .int .i64 0] 27) _ rfl
  have X1 := Lib.hid x1; clear x1
  have X2 := Lib.hid x2; clear x2
  have X3 := Lib.hid x3; clear x3
  have X4 := Lib.hid x4; clear x4
  by_cases hc : boolErr F = 0
  · have HC := Lib.hid hc
    have tb : (boolErr F != 0) = false := by simp [hc]
    clear hc
    go_enter Try.func13, Try.ntmps13
    go_wp2_with fail
    generalize (w.alloc (.cells #[.int .i64 F.op, .int .i64 F.var, .slice a F.kids.length cap] 24)).alloc (.cells #[.slice none 0 0, .int .i64 0] 27) = w1 at *
    refine (C1.out cap _ (Below.over hB hB.size X4.out)).mono ?_
    rintro e w2 ⟨rfl, hb2⟩
    have HB2 := Lib.hid hb2; clear hb2
    go_wp2_with fail
    refine (new_any w2).mono ?_
    rintro e w3 ⟨M, rfl, st3, hb3, hf3⟩
    have ST3 := Lib.hid st3; clear st3
    have HB3 := Lib.hid hb3; clear hb3
    have HF3 := Lib.hid hf3; clear hf3
    have B13 := Lib.hid (Below.over HB2.out HB2.out.size HB3.out)
    obtain ⟨y0, y1, y2⟩ := cells3 ((B13.out.block w.heap.size (by rw [X3.out]; omega)).trans X1.out)
    go_wp2_with fail
    have BZ := Lib.hid (boolErr_zero HC.out)
    have B03 := Lib.hid (Below.over (Below.over hB hB.size X4.out) (Nat.le_trans hB.size X4.out.size) B13.out)
    refine (C2.out cap w3 M [] [] B03.out (fun k hk => Nat.le_trans (Nat.le_trans (Nat.le_trans hB.size X4.out.size) HB2.out.size) (HF3.out k hk)) ST3.out BZ.out.2 (by have := BZ.out.1; simp; omega)).mono ?_
    rintro e w4 ⟨ns4, r4, dn4, v4, rfl, ⟨ms, em, lm⟩, rf4, tb4, st4, sp4⟩
    have hn4 : ns4.length ≤ 1000000000000 := by have := BZ.out.1; rw [em]; simp; omega
    have ST4 := Lib.hid st4; clear st4
    have SP4 := Lib.hid sp4; clear sp4
    have TB4 : Hid (Bd.tb ns4 16 r4 = tl (evF F)) := tb4
    clear tb4 em lm
    go_wp2_with fail
    refine (result_any ST4.out.mgr ST4.out.good hn4 rf4 TB4.out).mono ?_
    rintro e w5 ⟨a5, cap5, rfl, dn5, hb5⟩
    have DN5 := Lib.hid dn5; clear dn5
    have HB5 := Lib.hid hb5; clear hb5
    have B14 : Hid (Below w1.heap.size w1 w4) := by
      refine ⟨SP4.out.os.trans B13.out.os, SP4.out.tape.trans B13.out.tape, SP4.out.output.trans B13.out.output, Nat.le_trans B13.out.size SP4.out.size, fun k hk => ?_⟩
      rw [SP4.out.keep k (Nat.lt_of_lt_of_le hk B13.out.size) (fun e => absurd (HF3.out k e) (by have := HB2.out.size; omega))]
      exact B13.out.block k hk
    have B15 := Lib.hid (Below.over B14.out B14.out.size HB5.out)
    have hres := (B15.out.block (w.heap.size + 1) (by rw [X3.out]; omega)).trans X2.out
    obtain ⟨z0, z1, z2, z3⟩ := cells2 hres
    have e1 : Hid (bldNodes F = outNodes (tl (evF F)) ∧ bldRoot F = outRoot (tl (evF F)) ∧ bldErr F = outErr (tl (evF F))) := ⟨by simp [bldNodes, HC.out], by simp [bldRoot, HC.out], by simp [bldErr, HC.out]⟩
    generalize outNodes (tl (evF F)) = O at *
    generalize outRoot (tl (evF F)) = rt at *
    generalize outErr (tl (evF F)) = er at *
    have HRES := Lib.hid hres; clear hres
    have l5 := lt_of_cell z0
    go_wp2_with fail
    refine bodyPost_ret (v := .tuple #[.agg #[.slice a5 O.length cap5, .int .i64 rt], .int .i64 er]) (by simp [results, Try.results13, go_sem, z0, z1]) rfl ⟨a5, cap5, ?_, ?_, ?_⟩
    · rw [e1.out.1, e1.out.2.1, e1.out.2.2]
    · rw [e1.out.1]
      refine (DN5.out.of_blocks (w' := _) fun b hb hl => ?_).le (Nat.le_trans X4.out.size B14.out.size)
      have hs := B14.out.size
      rw [X3.out] at hs
      rw [Below.heap_setCell _ _ _ _ (by show b ≠ w.heap.size + 1; omega), Below.heap_setCell _ _ _ _ (by show b ≠ w.heap.size + 1; omega)]
    · exact ((Below.over X4.out X4.out.size B15.out).setCell (by show w.heap.size ≤ w.heap.size + 1; omega) _).setCell (by show w.heap.size ≤ w.heap.size + 1; omega) _
  · have tb : (boolErr F != 0) = true := by simp [hc]
    have e1 : Hid (bldNodes F = [] ∧ bldRoot F = 0 ∧ bldErr F = boolErr F) := ⟨by simp [bldNodes, hc], by simp [bldRoot, hc], by simp [bldErr, hc]⟩
    clear hc
    go_enter Try.func13, Try.ntmps13
    go_wp2_with fail
    generalize (w.alloc (.cells #[.int .i64 F.op, .int .i64 F.var, .slice a F.kids.length cap] 24)).alloc (.cells #[.slice none 0 0, .int .i64 0] 27) = w1 at *
    refine (C1.out cap _ (Below.over hB hB.size X4.out)).mono ?_
    rintro e w2 ⟨rfl, hb2⟩
    have HB2 := Lib.hid hb2; clear hb2
    have hres := (HB2.out.block (w.heap.size + 1) (by rw [X3.out]; omega)).trans X2.out
    obtain ⟨z0, z1, z2, z3⟩ := cells2 hres
    have HRES := Lib.hid hres; clear hres
    have l5 := lt_of_cell z0
    go_wp2_with fail
    refine bodyPost_ret (v := .tuple #[.agg #[.slice none 0 0, .int .i64 0], .int .i64 (boolErr F)]) (by simp [results, Try.results13, go_sem, z0, z1]) rfl ⟨none, 0, ?_, ?_, ?_⟩
    · rw [e1.out.1, e1.out.2.1, e1.out.2.2]; rfl
    · rw [e1.out.1]; exact dNew_nil _ _ _
    · exact ((Below.over X4.out X4.out.size HB2.out).setCell (by show w.heap.size ≤ w.heap.size + 1; omega) _).setCell (by show w.heap.size ≤ w.heap.size + 1; omega) _

end Go.Proofs.Ythhogbligfmpdaa

/- Bits; the reference's turned, uniform and alike. -/
namespace Go.Proofs.Ythhogbligfmpdaa
open Go.RowKit Bd

theorem bits_and_i64_nat (a b : Nat) (ha : a < 9223372036854775808) (hb : b < 9223372036854775808) : bits .and .i64 (a : Int) (b : Int) = ((a &&& b : Nat) : Int) := by
  have hx : a &&& b < 2 ^ 63 := Nat.and_lt_two_pow _ (by omega)
  have h1 : (BitVec.ofInt 64 (a : Int)).toNat = a := by
    rw [BitVec.ofInt_natCast, BitVec.toNat_ofNat]; exact Nat.mod_eq_of_lt (by omega)
  have h2 : (BitVec.ofInt 64 (b : Int)).toNat = b := by
    rw [BitVec.ofInt_natCast, BitVec.toNat_ofNat]; exact Nat.mod_eq_of_lt (by omega)
  show IntKind.i64.wrap ((BitVec.ofInt 64 (a : Int) &&& BitVec.ofInt 64 (b : Int)).toNat : Int) = _
  rw [BitVec.toNat_and, h1, h2]
  exact IntWalk.i64_in _ (by omega)

theorem bits_or_i64_nat (a b : Nat) (ha : a < 9223372036854775808) (hb : b < 9223372036854775808) : bits .or .i64 (a : Int) (b : Int) = ((a ||| b : Nat) : Int) := by
  have hx : a ||| b < 2 ^ 63 := Nat.or_lt_two_pow (by omega) (by omega)
  have h1 : (BitVec.ofInt 64 (a : Int)).toNat = a := by
    rw [BitVec.ofInt_natCast, BitVec.toNat_ofNat]; exact Nat.mod_eq_of_lt (by omega)
  have h2 : (BitVec.ofInt 64 (b : Int)).toNat = b := by
    rw [BitVec.ofInt_natCast, BitVec.toNat_ofNat]; exact Nat.mod_eq_of_lt (by omega)
  show IntKind.i64.wrap ((BitVec.ofInt 64 (a : Int) ||| BitVec.ofInt 64 (b : Int)).toNat : Int) = _
  rw [BitVec.toNat_or, h1, h2]
  exact IntWalk.i64_in _ (by omega)

/-- Bit v of x, as the walk writes it. -/
theorem bit_of (x v : Nat) (hx : x < 65536) : bits .and .i64 ((x : Int) / 2 ^ v) 1 = (((x.testBit v).toNat : Nat) : Int) := by
  have e : ((x : Int) / 2 ^ v) = ((x / 2 ^ v : Nat) : Int) := by simp
  have hle : x / 2 ^ v ≤ x := Nat.div_le_self _ _
  rw [e, show (1 : Int) = ((1 : Nat) : Int) from rfl, bits_and_i64_nat _ _ (by omega) (by omega)]
  congr 1
  rw [Nat.and_one_is_mod, Nat.testBit_eq_decide_div_mod_eq]
  have : x / 2 ^ v % 2 = 0 ∨ x / 2 ^ v % 2 = 1 := by omega
  rcases this with h | h <;> simp [h]

def rv (x : Nat) : Nat → Nat
  | 0 => 0
  | v + 1 => rv x v ||| ((x.testBit v).toNat * 2 ^ (15 - v))

theorem rv_lt (x : Nat) : ∀ v, rv x v < 2 ^ 16
  | 0 => by simp [rv]
  | v + 1 => by
    refine Nat.or_lt_two_pow (rv_lt x v) ?_
    have h1 : 2 ^ (15 - v) ≤ 2 ^ 15 := Nat.pow_le_pow_right (by omega) (by omega)
    have h2 : (2 : Nat) ^ 15 = 32768 := by decide
    have h3 : (2 : Nat) ^ 16 = 65536 := by decide
    cases x.testBit v <;> simp <;> omega

theorem rv_bit (x : Nat) : ∀ v, v ≤ 16 → ∀ j, (rv x v).testBit j = (decide (j < 16) && decide (15 < v + j) && x.testBit (15 - j))
  | 0, _, j => by
    by_cases h : j < 16
    · have : decide (15 < 0 + j) = false := by simp; omega
      rw [this]; simp [rv]
    · simp [rv, h]
  | v + 1, hv, j => by
    have ih := rv_bit x v (by omega) j
    simp only [rv, Nat.testBit_or, ih]
    have hb : ((x.testBit v).toNat * 2 ^ (15 - v)).testBit j = (x.testBit v && decide (j = 15 - v)) := by
      cases x.testBit v
      · simp
      · simp [Nat.testBit_two_pow, eq_comm]
    rw [hb]
    by_cases h16 : j < 16
    · by_cases hj : j = 15 - v
      · have h1 : ¬ 15 < v + j := by omega
        have h2 : 15 < v + 1 + j := by omega
        have h3 : 15 - j = v := by omega
        simp [h16, hj, h1, h2, h3]
        have : 15 - (15 - v) = v := by omega
        rw [this]
        have h4 : 15 < v + 1 + (15 - v) := by omega
        have h5 : 15 - v < 16 := by omega
        simp [h4, h5]
      · have : decide (15 < v + 1 + j) = decide (15 < v + j) := by
          rw [decide_eq_decide]; omega
        simp [h16, hj, this]
    · have hj : ¬ j = 15 - v := by omega
      simp [h16, hj]

theorem rv16 (x j : Nat) (hj : j < 16) : (rv x 16).testBit j = x.testBit (15 - j) := by
  rw [rv_bit x 16 (Nat.le_refl _) j]
  have : 15 < 16 + j := by omega
  simp [hj, this]

theorem turned_step (x y v : Nat) (hx : x < 65536) (hy : y < 65536) (hv : v < 16) : bits .or .i64 (y : Int) (wrap64 (bits .and .i64 ((x : Int) / 2 ^ v) 1 * 2 ^ (15 - v))) = ((y ||| ((x.testBit v).toNat * 2 ^ (15 - v)) : Nat) : Int) := by
  have h1 : 2 ^ (15 - v) ≤ 2 ^ 15 := Nat.pow_le_pow_right (by omega) (by omega)
  have h2 : (2 : Nat) ^ 15 = 32768 := by decide
  have h3 : (x.testBit v).toNat * 2 ^ (15 - v) ≤ 32768 := by cases x.testBit v <;> simp <;> omega
  rw [bit_of x v hx]
  have e : (((x.testBit v).toNat : Nat) : Int) * 2 ^ (15 - v) = (((x.testBit v).toNat * 2 ^ (15 - v) : Nat) : Int) := by simp
  rw [e, IntWalk.wrap64_in _ (by omega)]
  exact bits_or_i64_nat _ _ (by omega) (by omega)

set_option maxRecDepth 100000 in
set_option maxHeartbeats 400000 in
theorem turned_any (x : Nat) (w : World) (hx : x < 65536) :
    Calls Try.prog 50 #[.int .i64 x] w fun e w' => e = .returned (.int .i64 (rv x 16 : Nat)) ∧ w = w' := by
  go_enter Try.func50, Try.ntmps50
  go_wp2_with fail
  go_loop [3, 4] (fun o i => ∃ v : Nat, v ≤ 16 ∧ i = .int .i64 v ∧ o = .int .i64 (rv x v : Nat)) (fun _ i => 16 - (intOf i).toNat)
  case atStart => exact ⟨0, by omega, rfl, rfl⟩
  case round =>
    obtain ⟨v, hv, rfl, rfl⟩ := hrel
    have hlt2 := rv_lt x v
    have h3 : (2 : Nat) ^ 16 = 65536 := by decide
    rw [h3] at hlt2
    clear h3
    by_cases hlt : v < 16
    · have hst := Lib.hid (turned_step x (rv x v) v hx hlt2 hlt)
      go_wp2_with fail
      go_round
      case rel => exact ⟨v + 1, by omega, by go_num, by rw [hst.out]; rfl⟩
      case measure => simp [intOf]; omega
    · obtain rfl : v = 16 := by omega
      go_wp2_with fail
      go_ret
      exact ⟨rfl, rfl⟩

/-- A table lies from this cell on. -/
def TAt (w : World) (t : List Bool) (b o : Nat) : Prop := ∀ i, i < t.length → w.cell? ⟨b, o + i, none⟩ = some (.bool (t.getD i false))

theorem TAt.drewN {w : World} {t : List Bool} {b o : Nat} (h : TAt w t b o) (n : Nat) : TAt (w.drewN n) t b o := h
theorem TAt.block {w w' : World} {t : List Bool} {b o : Nat} (h : TAt w t b o) (hb : w'.heap[b]? = w.heap[b]?) : TAt w' t b o := fun i hi => (World.cell?_of_block (a := ⟨b, o + i, none⟩) hb).trans (h i hi)

def uni (t : List Bool) : Bool := t.all (· == t.getD 0 false)

/-- The first k entries are alike. -/
def UR (t : List Bool) (w : World) (i : Value) (wr : World) : Prop := ∃ k : Nat, 1 ≤ k ∧ k ≤ t.length ∧ i = .int .i64 k ∧ (∀ j, j < k → t.getD j false = t.getD 0 false) ∧ ∃ q, wr = w.drewN q

theorem uni_true {t : List Bool} (h : ∀ j, j < t.length → t.getD j false = t.getD 0 false) : uni t = true := by
  unfold uni
  rw [List.all_eq_true]
  intro x hx
  obtain ⟨j, hj, rfl⟩ := List.mem_iff_getElem.1 hx
  have := h j hj
  rw [List.getD_eq_getElem?_getD, List.getElem?_eq_getElem hj] at this
  simpa using this
theorem uni_false {t : List Bool} {j : Nat} (hj : j < t.length) (h : t.getD j false ≠ t.getD 0 false) : uni t = false := by
  unfold uni
  rw [List.all_eq_false]
  refine ⟨t[j], List.getElem_mem hj, ?_⟩
  rw [List.getD_eq_getElem?_getD, List.getElem?_eq_getElem hj] at h
  simpa using h

set_option maxRecDepth 100000 in
set_option maxHeartbeats 400000 in
theorem uniform_any (t : List Bool) (b o cap : Nat) (w : World) (h : TAt w t b o) (h1 : 1 ≤ t.length) (h2 : t.length ≤ 65536) :
    Calls Try.prog 82 #[.slice (some ⟨b, o, none⟩) t.length cap] w fun e w' => e = .returned (.bool (uni t)) ∧ ∃ q, w' = w.drewN q := by
  have H := Lib.hid h; clear h
  go_enter Try.func82, Try.ntmps82
  go_wp2_with fail
  go_loopw [3] (fun i wr => UR t w i wr) (fun i _ => t.length - (intOf i).toNat)
  case atStart =>
    refine ⟨1, by omega, h1, rfl, fun j hj => ?_, 0, rfl⟩
    obtain rfl : j = 0 := by omega
    rfl
  case round =>
    obtain ⟨k, hk1, hk, rfl, hall, q, rfl⟩ := hrel
    have HA := Lib.hid hall; clear hall
    by_cases hlt : k < t.length
    · have c0 := H.out 0 (by omega)
      have ck := H.out k hlt
      have i1 : (k : Int) < (t.length : Int) := by omega
      have i2 : (0 : Int) < (t.length : Int) := by omega
      have i3 : (0 : Int) ≤ (k : Int) := by omega
      simp only [Nat.add_zero] at c0
      obtain ⟨x, hx⟩ : ∃ x, t.getD k false = x := ⟨_, rfl⟩
      obtain ⟨y, hy⟩ : ∃ y, t.getD 0 false = y := ⟨_, rfl⟩
      rw [hx] at ck
      rw [hy] at c0
      have HX := Lib.hid hx; clear hx
      have HY := Lib.hid hy; clear hy
      by_cases hxy : x = y
      · have hb : (!(x == y)) = false := by simp [hxy]
        have HXY := Lib.hid hxy; clear hxy
        go_wp2_with fail
        go_quiet (fail)
        go_wp2_with fail
        go_roundw
        case rel =>
          refine ⟨k + 1, by omega, by omega, by go_num, fun j hj => ?_, _, rfl⟩
          by_cases hjk : j < k
          · exact HA.out j hjk
          · obtain rfl : j = k := by omega
            rw [HX.out, HY.out, HXY.out]
        case measure => simp [intOf]; omega
      · have hb : (!(x == y)) = true := by simp [hxy]
        have hu := uni_false hlt (by rw [HX.out, HY.out]; exact hxy)
        have HU := Lib.hid hu; clear hu hxy
        go_wp2_with fail
        go_quiet (fail)
        go_wp2_with fail
        go_ret
        exact ⟨by rw [HU.out]; rfl, q + nq, (World.drewN_drewN _ _ _)⟩
    · have hu := uni_true (t := t) fun j hj => HA.out j (by omega)
      have HU := Lib.hid hu; clear hu
      go_wp2_with fail
      go_ret
      exact ⟨by rw [HU.out]; rfl, _, rfl⟩

/-- The first k entries agree. -/
def AR (s t : List Bool) (w : World) (i : Value) (wr : World) : Prop := ∃ k : Nat, k ≤ s.length ∧ i = .int .i64 k ∧ (∀ j, j < k → s.getD j false = t.getD j false) ∧ ∃ q, wr = w.drewN q

theorem alike_true {s t : List Bool} (hl : s.length = t.length) (h : ∀ j, j < s.length → s.getD j false = t.getD j false) : (s == t) = true := by
  rw [beq_iff_eq]
  refine List.ext_getElem hl fun j h1 h2 => ?_
  have := h j h1
  rw [List.getD_eq_getElem?_getD, List.getElem?_eq_getElem h1, List.getD_eq_getElem?_getD, List.getElem?_eq_getElem h2] at this
  simpa using this
theorem alike_false {s t : List Bool} {j : Nat} (h : s.getD j false ≠ t.getD j false) : (s == t) = false := by
  rw [beq_eq_false_iff_ne]
  intro e
  exact h (by rw [e])

set_option maxRecDepth 100000 in
set_option maxHeartbeats 400000 in
theorem alike_any (s t : List Bool) (b o c b' o' c' : Nat) (w : World) (h : TAt w s b o) (h' : TAt w t b' o') (hl : s.length = t.length) (h2 : s.length ≤ 65536) :
    Calls Try.prog 83 #[.slice (some ⟨b, o, none⟩) s.length c, .slice (some ⟨b', o', none⟩) t.length c'] w fun e w' => e = .returned (.bool (s == t)) ∧ ∃ q, w' = w.drewN q := by
  have H := Lib.hid h; clear h
  have H' := Lib.hid h'; clear h'
  have hne : ((s.length : Int) != (t.length : Int)) = false := by simp [hl]
  have HL := Lib.hid hl; clear hl
  go_enter Try.func83, Try.ntmps83
  go_wp2_with fail
  go_loopw [5] (fun i wr => AR s t w i wr) (fun i _ => s.length - (intOf i).toNat)
  case atStart => exact ⟨0, by omega, rfl, fun j hj => by omega, 0, rfl⟩
  case round =>
    obtain ⟨k, hk, rfl, hall, q, rfl⟩ := hrel
    have HA := Lib.hid hall; clear hall
    by_cases hlt : k < s.length
    · have ck := H.out k hlt
      have dk := H'.out k (by rw [← HL.out]; exact hlt)
      have i1 : (k : Int) < (s.length : Int) := by omega
      have i2 : (k : Int) < (t.length : Int) := by rw [← HL.out]; omega
      have i2n : k < t.length := by omega
      have i3 : (0 : Int) ≤ (k : Int) := by omega
      obtain ⟨x, hx⟩ : ∃ x, s.getD k false = x := ⟨_, rfl⟩
      obtain ⟨y, hy⟩ : ∃ y, t.getD k false = y := ⟨_, rfl⟩
      rw [hx] at ck
      rw [hy] at dk
      have HX := Lib.hid hx; clear hx
      have HY := Lib.hid hy; clear hy
      by_cases hxy : x = y
      · have hb : (!(x == y)) = false := by simp [hxy]
        have HXY := Lib.hid hxy; clear hxy
        go_wp2_with fail
        go_quiet (fail)
        go_wp2_with fail
        go_roundw
        case rel =>
          refine ⟨k + 1, by omega, by go_num, fun j hj => ?_, _, rfl⟩
          by_cases hjk : j < k
          · exact HA.out j hjk
          · obtain rfl : j = k := by omega
            rw [HX.out, HY.out, HXY.out]
        case measure => simp [intOf]; omega
      · have hb : (!(x == y)) = true := by simp [hxy]
        have hu := alike_false (s := s) (t := t) (j := k) (by rw [HX.out, HY.out]; exact hxy)
        have HU := Lib.hid hu; clear hu hxy
        go_wp2_with fail
        go_quiet (fail)
        go_wp2_with fail
        go_ret
        exact ⟨by rw [HU.out]; rfl, q + nq, (World.drewN_drewN _ _ _)⟩
    · have hu := alike_true HL.out fun j hj => HA.out j (by omega)
      have HU := Lib.hid hu; clear hu
      go_wp2_with fail
      go_ret
      exact ⟨by rw [HU.out]; rfl, _, rfl⟩

end Go.Proofs.Ythhogbligfmpdaa

/- The reference's value of a formula. -/
namespace Go.Proofs.Ythhogbligfmpdaa
open Go.RowKit Bd

theorem leaf_bit (x y v : Nat) (hx : x < 65536) (hv : v < 16) (h : ∀ j, j < 16 → x.testBit j = y.testBit (15 - j)) : (bits .and .i64 ((x : Int) / 2 ^ v) 1 == 1) = y.testBit (15 - v) := by
  rw [bit_of x v hx, ← h v hv]
  cases x.testBit v <;> rfl

theorem FmAt.kid {w0 w : World} {kids : List Fm} {a : Option Addr} {A : Nat → Option Addr} {Cp : Nat → Nat} (h : kids ≠ [] → ∃ b o, a = some ⟨b, o, none⟩ ∧ ∀ i (hi : i < kids.length), w0.cell? ⟨b, o + i * 3, none⟩ = some (.int .i64 kids[i].op) ∧ w0.cell? ⟨b, o + i * 3 + 1, none⟩ = some (.int .i64 kids[i].var) ∧ w0.cell? ⟨b, o + i * 3 + 2, none⟩ = some (.slice (A i) kids[i].kids.length (Cp i)))
    (hB : Below w0.heap.size w0 w) (h0 : 0 < kids.length) : ∃ b o, a = some ⟨b, o, none⟩ ∧ b < w0.heap.size ∧ ∀ i (hi : i < kids.length), w.cell? ⟨b, o + i * 3, none⟩ = some (.int .i64 kids[i].op) ∧ w.cell? ⟨b, o + i * 3 + 1, none⟩ = some (.int .i64 kids[i].var) ∧ w.cell? ⟨b, o + i * 3 + 2, none⟩ = some (.slice (A i) kids[i].kids.length (Cp i)) := by
  obtain ⟨b, o, e, hc⟩ := h (by intro e; rw [e] at h0; simp at h0)
  exact ⟨b, o, e, lt_of_cell (hc 0 h0).1, fun i hi => kid_cells hB (hc i hi)⟩

/-- The first k kids have this value. -/
def TR (kids : List Fm) (y : Nat) (c : Bool) (w : World) (i : Value) (wr : World) : Prop := ∃ k : Nat, k ≤ kids.length ∧ i = .int .i64 k ∧ (∀ j, j < k → evF (kids.getD j (.mk 0 0 [])) y = c) ∧ Below w.heap.size w wr

theorem getD_mem (l : List Fm) (x : Fm) (h : x ∈ l) : ∃ j, j < l.length ∧ l.getD j (.mk 0 0 []) = x := by
  obtain ⟨j, hj, rfl⟩ := List.mem_iff_getElem.1 h
  exact ⟨j, hj, by rw [List.getD_eq_getElem?_getD, List.getElem?_eq_getElem hj]; rfl⟩
theorem mem_getD (l : List Fm) (j : Nat) (h : j < l.length) : l.getD j (.mk 0 0 []) ∈ l := by
  rw [List.getD_eq_getElem?_getD, List.getElem?_eq_getElem h]; exact List.getElem_mem h
theorem all_done {l : List Fm} {y : Nat} (h : ∀ j, j < l.length → evF (l.getD j (.mk 0 0 [])) y = true) : (l.all fun f => evF f y) = true := by
  rw [List.all_eq_true]
  intro f hf
  obtain ⟨j, hj, rfl⟩ := getD_mem l f hf
  exact h j hj
theorem any_done {l : List Fm} {y : Nat} (h : ∀ j, j < l.length → evF (l.getD j (.mk 0 0 [])) y = false) : (l.any fun f => evF f y) = false := by
  rw [List.any_eq_false]
  intro f hf
  obtain ⟨j, hj, rfl⟩ := getD_mem l f hf
  rw [h j hj]; simp
theorem all_stop {l : List Fm} {y j : Nat} (hj : j < l.length) (h : evF (l.getD j (.mk 0 0 [])) y = false) : (l.all fun f => evF f y) = false := by
  rw [List.all_eq_false]
  exact ⟨_, mem_getD l j hj, by rw [h]; simp⟩
theorem any_stop {l : List Fm} {y j : Nat} (hj : j < l.length) (h : evF (l.getD j (.mk 0 0 [])) y = true) : (l.any fun f => evF f y) = true := by
  rw [List.any_eq_true]
  exact ⟨_, mem_getD l j hj, h⟩

set_option maxRecDepth 100000 in
set_option maxHeartbeats 1000000 in
theorem True_any {w0 : World} {F : Fm} {a : Option Addr} (h : FmAt w0 F a) : ∀ (cap : Nat) (w : World) (x y : Nat), Below w0.heap.size w0 w → fault F = 0 → x < 65536 → (∀ j, j < 16 → x.testBit j = y.testBit (15 - j)) →
    Calls Try.prog 49 #[.agg #[.int .i64 F.op, .int .i64 F.var, .slice a F.kids.length cap], .int .i64 x] w fun e w' => e = .returned (.bool (evF F y)) ∧ Below w.heap.size w w' := by
  induction h with
  | mk op var kids a A Cp hl h hk ih =>
  intro cap w x y hB hfa hx hxy
  have IH := Lib.hid ih; clear ih
  have H := Lib.hid h; clear h
  have HK := Lib.hid hk; clear hk
  have FZ := Lib.hid (fault_zero hfa)
  have HXY := Lib.hid hxy; clear hxy hfa
  simp only [Fm.op, Fm.var, Fm.kids]
  have B1 : Hid (Below w.heap.size w (w.alloc (.cells #[.int .i64 op, .int .i64 var, .slice a kids.length cap] 24))) := (Below.refl _ _).alloc (Nat.le_refl _) _
  have S1 : Hid ((w.alloc (.cells #[.int .i64 op, .int .i64 var, .slice a kids.length cap] 24)).heap.size = w.heap.size + 1) := by show _ = _; simp
  have x0 : (w.alloc (.cells #[.int .i64 op, .int .i64 var, .slice a kids.length cap] 24)).cell? ⟨w.heap.size, 0, none⟩ = some (.int .i64 op) := by simp
  have x2 : (w.alloc (.cells #[.int .i64 op, .int .i64 var, .slice a kids.length cap] 24)).cell? ⟨w.heap.size, 2, none⟩ = some (.slice a kids.length cap) := by simp
  have BO := Lib.hid (Below.over hB hB.size B1.out)
  rcases own_zero FZ.out.1 with ⟨rfl, hn, hv0, hv1⟩ | ⟨rfl, hn, hv0, hv1⟩ | ⟨rfl, hn⟩ | rfl | rfl | ⟨rfl, hn⟩ | ⟨rfl, hn⟩
  · -- a variable
    obtain ⟨v, rfl⟩ := Int.eq_ofNat_of_zero_le hv0
    have hv2 : v < 16 := by omega
    have HE : Hid (evF (.mk 1 v kids) y = (bits .and .i64 ((x : Int) / 2 ^ v) 1 == 1)) := by
      show _ = _
      rw [evF_var, leaf_bit x y v hx hv2 HXY.out, Int.toNat_natCast]
    clear x0 x2 hn
    go_enter Try.func49, Try.ntmps49
    go_wp2_with fail
    go_ret
    exact ⟨by rw [HE.out]; rfl, B1.out⟩
  · -- a constant
    have HE : Hid (evF (.mk 2 var kids) y = (var == 1)) := evF_const _ _ _
    clear x0 x2 hn
    go_enter Try.func49, Try.ntmps49
    go_wp2_with fail
    go_ret
    exact ⟨by rw [HE.out]; rfl, B1.out⟩
  · -- a negation
    have h0 : 0 < kids.length := by omega
    have HE := Lib.hid (evF_not var kids y h0)
    obtain ⟨b, o, rfl, hbl, hc⟩ := FmAt.kid H.out BO.out h0
    obtain ⟨c0, c1, c2⟩ := hc 0 h0
    have hi1 : (0 : Int) < (kids.length : Int) := by omega
    have HC := Lib.hid hc; clear hc hn
    have EK : Hid (kids.getD 0 (.mk 0 0 []) = kids[0]) := by show _ = _; rw [List.getD_eq_getElem?_getD, List.getElem?_eq_getElem h0]; rfl
    simp only [Nat.zero_mul, Nat.add_zero, Nat.zero_add] at c0 c1 c2
    go_enter Try.func49, Try.ntmps49
    go_wp2_with fail
    generalize w.alloc (.cells #[.int .i64 3, .int .i64 var, .slice (some ⟨b, o, none⟩) kids.length cap] 24) = w1 at *
    refine (IH.out 0 h0 (Cp 0) _ x y BO.out (FZ.out.2 0 h0) hx HXY.out).mono ?_
    rintro e w2 ⟨rfl, hb2⟩
    have HB2 := Lib.hid hb2; clear hb2
    go_wp2_with fail
    go_ret
    exact ⟨by rw [HE.out, EK.out]; rfl, Below.over B1.out B1.out.size HB2.out⟩
  · -- and
    have HE := Lib.hid (evF_and var kids y)
    go_enter Try.func49, Try.ntmps49
    go_wp2_with fail
    generalize w.alloc (.cells #[.int .i64 4, .int .i64 var, .slice a kids.length cap] 24) = w1 at *
    go_loopw [5] (fun i wr => TR kids y true w1 i wr) (fun i _ => kids.length - (intOf i).toNat)
    case atStart => exact ⟨0, Nat.zero_le _, rfl, fun j hj => by omega, Below.refl _ _⟩
    case round =>
      obtain ⟨k, hk, rfl, hall, hb⟩ := hrel
      have HA := Lib.hid hall; clear hall
      have y2 := cell_later hb x2
      have y0 := cell_later hb x0
      have HB := Lib.hid hb; clear hb
      by_cases hkk : k < kids.length
      · obtain ⟨b, o, rfl, hbl, hc⟩ := FmAt.kid H.out (Below.over BO.out BO.out.size HB.out) (by omega)
        obtain ⟨c0, c1, c2⟩ := hc k hkk
        have i1 : (k : Int) < (kids.length : Int) := by omega
        have i3 : (0 : Int) ≤ (k : Int) := by omega
        clear hc
        have C0 := Lib.hid (fun (W : World) (hW : Below w0.heap.size w0 W) => IH.out k hkk (Cp k) W x y hW (FZ.out.2 k hkk) hx HXY.out)
        generalize kids[k].op = p0 at *
        generalize kids[k].var = p1 at *
        generalize kids[k].kids.length = p2 at *
        have EK : Hid (kids.getD k (.mk 0 0 []) = kids[k]) := by show _ = _; rw [List.getD_eq_getElem?_getD, List.getElem?_eq_getElem hkk]; rfl
        go_wp2_with fail
        go_region_held3 (fun W => W.cell? ⟨w.heap.size, 2, none⟩ = some (.slice (some ⟨b, o, none⟩) kids.length cap) ∧ W.cell? ⟨w.heap.size, 0, none⟩ = some (.int .i64 4) ∧ W.cell? ⟨b, o + k * 3, none⟩ = some (.int .i64 p0) ∧ W.cell? ⟨b, o + k * 3 + 1, none⟩ = some (.int .i64 p1) ∧ W.cell? ⟨b, o + k * 3 + 2, none⟩ = some (.slice (A k) p2 (Cp k)))
          (first
            | exact ⟨y2, y0, c0, c1, c2⟩
            | exact ⟨cell_later hb2 y2, cell_later hb2 y0, cell_later hb2 c0, cell_later hb2 c1, cell_later hb2 c2⟩)
          (first | (go_at_call 49; refine (C0.out wr.drew ((Below.over BO.out BO.out.size HB.out).drew)).mono ?_; rintro e w2 ⟨rfl, hb2⟩))
        have z0 := cell_later hb2 y0
        have BB : Hid (Below w1.heap.size w1 w2) := (HB.out.drew).trans (hb2.mono HB.out.size)
        clear hb2
        cases hev : evF kids[k] y
        · have HEV := Lib.hid hev; clear hev
          have hres : Hid (evF (.mk 4 var kids) y = false) := by
            show _ = _
            rw [HE.out]
            exact all_stop hkk (by rw [EK.out, HEV.out])
          go_wp2_with fail
          go_ret
          exact ⟨by rw [hres.out]; rfl, Below.over B1.out B1.out.size BB.out⟩
        · have HEV := Lib.hid hev; clear hev
          go_wp2_with fail
          go_roundw
          case rel =>
            refine ⟨k + 1, by omega, by go_num, fun j hj => ?_, BB.out⟩
            by_cases hjk : j < k
            · exact HA.out j hjk
            · obtain rfl : j = k := by omega
              rw [EK.out, HEV.out]
          case measure => simp [intOf]; omega
      · have htk : kids.take k = kids := List.take_of_length_le (by omega)
        have hres : Hid (evF (.mk 4 var kids) y = true) := by
          show _ = _
          rw [HE.out]
          exact all_done (fun j hj => HA.out j (by omega))
        go_wp2_with fail
        go_ret
        exact ⟨by rw [hres.out]; rfl, Below.over B1.out B1.out.size HB.out⟩
  · -- or
    have HE := Lib.hid (evF_or var kids y)
    go_enter Try.func49, Try.ntmps49
    go_wp2_with fail
    generalize w.alloc (.cells #[.int .i64 5, .int .i64 var, .slice a kids.length cap] 24) = w1 at *
    go_loopw [5] (fun i wr => TR kids y false w1 i wr) (fun i _ => kids.length - (intOf i).toNat)
    case atStart => exact ⟨0, Nat.zero_le _, rfl, fun j hj => by omega, Below.refl _ _⟩
    case round =>
      obtain ⟨k, hk, rfl, hall, hb⟩ := hrel
      have HA := Lib.hid hall; clear hall
      have y2 := cell_later hb x2
      have y0 := cell_later hb x0
      have HB := Lib.hid hb; clear hb
      by_cases hkk : k < kids.length
      · obtain ⟨b, o, rfl, hbl, hc⟩ := FmAt.kid H.out (Below.over BO.out BO.out.size HB.out) (by omega)
        obtain ⟨c0, c1, c2⟩ := hc k hkk
        have i1 : (k : Int) < (kids.length : Int) := by omega
        have i3 : (0 : Int) ≤ (k : Int) := by omega
        clear hc
        have C0 := Lib.hid (fun (W : World) (hW : Below w0.heap.size w0 W) => IH.out k hkk (Cp k) W x y hW (FZ.out.2 k hkk) hx HXY.out)
        generalize kids[k].op = p0 at *
        generalize kids[k].var = p1 at *
        generalize kids[k].kids.length = p2 at *
        have EK : Hid (kids.getD k (.mk 0 0 []) = kids[k]) := by show _ = _; rw [List.getD_eq_getElem?_getD, List.getElem?_eq_getElem hkk]; rfl
        go_wp2_with fail
        go_region_held3 (fun W => W.cell? ⟨w.heap.size, 2, none⟩ = some (.slice (some ⟨b, o, none⟩) kids.length cap) ∧ W.cell? ⟨w.heap.size, 0, none⟩ = some (.int .i64 5) ∧ W.cell? ⟨b, o + k * 3, none⟩ = some (.int .i64 p0) ∧ W.cell? ⟨b, o + k * 3 + 1, none⟩ = some (.int .i64 p1) ∧ W.cell? ⟨b, o + k * 3 + 2, none⟩ = some (.slice (A k) p2 (Cp k)))
          (first
            | exact ⟨y2, y0, c0, c1, c2⟩
            | exact ⟨cell_later hb2 y2, cell_later hb2 y0, cell_later hb2 c0, cell_later hb2 c1, cell_later hb2 c2⟩)
          (first | (go_at_call 49; refine (C0.out wr.drew ((Below.over BO.out BO.out.size HB.out).drew)).mono ?_; rintro e w2 ⟨rfl, hb2⟩))
        have z0 := cell_later hb2 y0
        have BB : Hid (Below w1.heap.size w1 w2) := (HB.out.drew).trans (hb2.mono HB.out.size)
        clear hb2
        cases hev : evF kids[k] y
        · have HEV := Lib.hid hev; clear hev
          go_wp2_with fail
          go_roundw
          case rel =>
            refine ⟨k + 1, by omega, by go_num, fun j hj => ?_, BB.out⟩
            by_cases hjk : j < k
            · exact HA.out j hjk
            · obtain rfl : j = k := by omega
              rw [EK.out, HEV.out]
          case measure => simp [intOf]; omega
        · have HEV := Lib.hid hev; clear hev
          have hres : Hid (evF (.mk 5 var kids) y = true) := by
            show _ = _
            rw [HE.out]
            exact any_stop hkk (by rw [EK.out, HEV.out])
          go_wp2_with fail
          go_ret
          exact ⟨by rw [hres.out]; rfl, Below.over B1.out B1.out.size BB.out⟩
      · have htk : kids.take k = kids := List.take_of_length_le (by omega)
        have hres : Hid (evF (.mk 5 var kids) y = false) := by
          show _ = _
          rw [HE.out]
          exact any_done (fun j hj => HA.out j (by omega))
        go_wp2_with fail
        go_ret
        exact ⟨by rw [hres.out]; rfl, Below.over B1.out B1.out.size HB.out⟩
  · -- xor
    have h0 : 0 < kids.length := by omega
    have h1 : 1 < kids.length := by omega
    have HE := Lib.hid (evF_xor var kids y h1)
    obtain ⟨b, o, rfl, hbl, hc⟩ := FmAt.kid H.out BO.out h0
    obtain ⟨c0, c1, c2⟩ := hc 0 h0
    obtain ⟨d0, d1, d2⟩ := hc 1 h1
    have hi1 : (0 : Int) < (kids.length : Int) := by omega
    have hi2 : (1 : Int) < (kids.length : Int) := by omega
    have HC := Lib.hid hc; clear hc hn
    have EK : Hid (kids.getD 0 (.mk 0 0 []) = kids[0]) := by show _ = _; rw [List.getD_eq_getElem?_getD, List.getElem?_eq_getElem h0]; rfl
    have EK1 : Hid (kids.getD 1 (.mk 0 0 []) = kids[1]) := by show _ = _; rw [List.getD_eq_getElem?_getD, List.getElem?_eq_getElem h1]; rfl
    simp only [Nat.zero_mul, Nat.one_mul, Nat.add_zero, Nat.zero_add] at c0 c1 c2 d0 d1 d2
    go_enter Try.func49, Try.ntmps49
    go_wp2_with fail
    generalize w.alloc (.cells #[.int .i64 6, .int .i64 var, .slice (some ⟨b, o, none⟩) kids.length cap] 24) = w1 at *
    have C0 := Lib.hid (fun (W : World) (hW : Below w0.heap.size w0 W) => IH.out 0 h0 (Cp 0) W x y hW (FZ.out.2 0 h0) hx HXY.out)
    have C1 := Lib.hid (fun (W : World) (hW : Below w0.heap.size w0 W) => IH.out 1 h1 (Cp 1) W x y hW (FZ.out.2 1 h1) hx HXY.out)
    generalize kids[0].op = p0 at *
    generalize kids[0].var = p1 at *
    generalize kids[0].kids.length = p2 at *
    generalize kids[1].op = q0 at *
    generalize kids[1].var = q1 at *
    generalize kids[1].kids.length = q2 at *
    go_region_held3 (fun W => W.cell? ⟨w.heap.size, 2, none⟩ = some (.slice (some ⟨b, o, none⟩) kids.length cap) ∧ W.cell? ⟨b, o, none⟩ = some (.int .i64 p0) ∧ W.cell? ⟨b, o + 1, none⟩ = some (.int .i64 p1) ∧ W.cell? ⟨b, o + 2, none⟩ = some (.slice (A 0) p2 (Cp 0)) ∧
        W.cell? ⟨b, o + 3, none⟩ = some (.int .i64 q0) ∧ W.cell? ⟨b, o + 3 + 1, none⟩ = some (.int .i64 q1) ∧ W.cell? ⟨b, o + 3 + 2, none⟩ = some (.slice (A 1) q2 (Cp 1)))
      (first
        | exact ⟨x2, c0, c1, c2, d0, d1, d2⟩
        | exact ⟨cell_later hb2 x2, cell_later hb2 c0, cell_later hb2 c1, cell_later hb2 c2, cell_later hb2 d0, cell_later hb2 d1, cell_later hb2 d2⟩
        | exact ⟨cell_later hb3 (cell_later hb2 x2), cell_later hb3 (cell_later hb2 c0), cell_later hb3 (cell_later hb2 c1), cell_later hb3 (cell_later hb2 c2), cell_later hb3 (cell_later hb2 d0), cell_later hb3 (cell_later hb2 d1), cell_later hb3 (cell_later hb2 d2)⟩)
      (first
        | (go_at_call_of 49 (Value.agg #[.int .i64 p0, .int .i64 p1, .slice (A 0) p2 (Cp 0)]); refine (C0.out w1.drew BO.out.drew).mono ?_; rintro e w2 ⟨rfl, hb2⟩)
        | (go_at_call_of 49 (Value.agg #[.int .i64 q0, .int .i64 q1, .slice (A 1) q2 (Cp 1)]); refine (C1.out w2 (Below.over BO.out.drew BO.out.drew.size hb2)).mono ?_; rintro e w3 ⟨rfl, hb3⟩))
    have BB := Lib.hid (Below.over (Below.over B1.out B1.out.size ((Below.refl w1.heap.size w1).drew.trans (hb2.mono (Nat.le_refl _)))) (Nat.le_trans B1.out.size hb2.size) hb3)
    clear hb2 hb3
    go_wp2_with fail
    go_ret
    exact ⟨by rw [HE.out, EK.out, EK1.out]; rfl, BB.out⟩
  · -- ite
    have h0 : 0 < kids.length := by omega
    have h1 : 1 < kids.length := by omega
    have h2 : 2 < kids.length := by omega
    have HE := Lib.hid (evF_ite var kids y h2)
    obtain ⟨b, o, rfl, hbl, hc⟩ := FmAt.kid H.out BO.out h0
    obtain ⟨c0, c1, c2⟩ := hc 0 h0
    obtain ⟨d0, d1, d2⟩ := hc 1 h1
    obtain ⟨e0, e1, e2⟩ := hc 2 h2
    have hi1 : (0 : Int) < (kids.length : Int) := by omega
    have hi2 : (1 : Int) < (kids.length : Int) := by omega
    have hi3 : (2 : Int) < (kids.length : Int) := by omega
    have HC := Lib.hid hc; clear hc hn
    have EK : Hid (kids.getD 0 (.mk 0 0 []) = kids[0]) := by show _ = _; rw [List.getD_eq_getElem?_getD, List.getElem?_eq_getElem h0]; rfl
    have EK1 : Hid (kids.getD 1 (.mk 0 0 []) = kids[1]) := by show _ = _; rw [List.getD_eq_getElem?_getD, List.getElem?_eq_getElem h1]; rfl
    have EK2 : Hid (kids.getD 2 (.mk 0 0 []) = kids[2]) := by show _ = _; rw [List.getD_eq_getElem?_getD, List.getElem?_eq_getElem h2]; rfl
    simp only [Nat.zero_mul, Nat.one_mul, Nat.add_zero, Nat.zero_add, Nat.reduceMul] at c0 c1 c2 d0 d1 d2 e0 e1 e2
    go_enter Try.func49, Try.ntmps49
    go_wp2_with fail
    generalize w.alloc (.cells #[.int .i64 7, .int .i64 var, .slice (some ⟨b, o, none⟩) kids.length cap] 24) = w1 at *
    refine (IH.out 0 h0 (Cp 0) w1 x y BO.out (FZ.out.2 0 h0) hx HXY.out).mono ?_
    rintro e w2 ⟨rfl, hb2⟩
    have y2 := cell_later hb2 x2
    have f0 := cell_later hb2 d0
    have f1 := cell_later hb2 d1
    have f2 := cell_later hb2 d2
    have g0 := cell_later hb2 e0
    have g1 := cell_later hb2 e1
    have g2 := cell_later hb2 e2
    have HB2 := Lib.hid hb2; clear hb2
    cases hev : evF kids[0] y
    · have HEV := Lib.hid hev; clear hev
      go_wp2_with fail
      refine (IH.out 2 h2 (Cp 2) w2 x y (Below.over BO.out BO.out.size HB2.out) (FZ.out.2 2 h2) hx HXY.out).mono ?_
      rintro e w3 ⟨rfl, hb3⟩
      have HB3 := Lib.hid hb3; clear hb3
      go_wp2_with fail
      go_ret
      exact ⟨by rw [HE.out, EK.out, EK2.out, HEV.out]; rfl, Below.over (Below.over B1.out B1.out.size HB2.out) (Nat.le_trans B1.out.size HB2.out.size) HB3.out⟩
    · have HEV := Lib.hid hev; clear hev
      go_wp2_with fail
      refine (IH.out 1 h1 (Cp 1) w2 x y (Below.over BO.out BO.out.size HB2.out) (FZ.out.2 1 h1) hx HXY.out).mono ?_
      rintro e w3 ⟨rfl, hb3⟩
      have HB3 := Lib.hid hb3; clear hb3
      go_wp2_with fail
      go_ret
      exact ⟨by rw [HE.out, EK.out, EK1.out, HEV.out]; rfl, Below.over (Below.over B1.out B1.out.size HB2.out) (Nat.le_trans B1.out.size HB2.out.size) HB3.out⟩

end Go.Proofs.Ythhogbligfmpdaa

/- The reference's table of a formula. -/
namespace Go.Proofs.Ythhogbligfmpdaa
open Go.RowKit Bd

theorem info4 : (Try.prog.info? 4).map (fun i => (i.zero, i.size, i.bytes)) = some (some (.bool false), 1, 1) := by kernel_rfl

/-- The first k entries of a table of n are laid in block g; all that lies below it is as it was. -/
def FT (n g : Nat) (f : Nat → Bool) (w : World) (i : Value) (wr : World) : Prop :=
  ∃ k : Nat, k ≤ n ∧ i = .int .i64 k ∧ (∀ j, j < k → wr.cell? ⟨g, j, none⟩ = some (.bool (f j))) ∧ (∀ j, j < n → ∃ u, wr.cell? ⟨g, j, none⟩ = some u) ∧ (∀ j, wr.frozen? ⟨g, j, none⟩ = false) ∧ Below g w wr ∧ g < wr.heap.size

theorem ft_made {n g e : Nat} {w : World} {xs : List Value} {f : Nat → Bool} (h : w.ownsRow 0 e 1 (.slice (some ⟨g, 0, none⟩) n n) n xs) : FT n g f w (.int .i64 ((0 : Nat) : Int)) w := by
  refine ⟨0, Nat.zero_le _, rfl, fun j hj => by omega, fun j hj => ?_, fun j => h.frozenAt j, Below.refl _ _, (h.lt g rfl).2⟩
  have hl := h.1
  rw [h.cellAt j (by omega), List.getElem?_eq_getElem (by omega)]
  exact ⟨_, rfl⟩

theorem ft_step {n g k : Nat} {f : Nat → Bool} {w wr w2 : World} (hk : k < n) (h1 : ∀ j, j < k → wr.cell? ⟨g, j, none⟩ = some (.bool (f j))) (h2 : ∀ j, j < n → ∃ u, wr.cell? ⟨g, j, none⟩ = some u) (h3 : ∀ j, wr.frozen? ⟨g, j, none⟩ = false) (h4 : Below g w wr) (h5 : g < wr.heap.size)
    (hb : Below wr.heap.size wr w2) : FT n g f w (.int .i64 ((k + 1 : Nat) : Int)) (w2.setCell ⟨g, k, none⟩ (.bool (f k))) := by
  have cells : ∀ j v, wr.cell? ⟨g, j, none⟩ = some v → w2.cell? ⟨g, j, none⟩ = some v := fun j v h => (hb.cell (p := ⟨g, j, none⟩) h5).trans h
  have other : ∀ j v, j ≠ k → w2.cell? ⟨g, j, none⟩ = some v → (w2.setCell ⟨g, k, none⟩ (.bool (f k))).cell? ⟨g, j, none⟩ = some v := by
    intro j v hj h
    rw [World.cell?_setCell_other _ _ _ _ (by intro e; exact hj (congrArg Addr.off e).symm)]
    exact h
  have same : (w2.setCell ⟨g, k, none⟩ (.bool (f k))).cell? ⟨g, k, none⟩ = some (.bool (f k)) := by
    obtain ⟨u, hu⟩ := h2 k hk
    exact World.cell?_setCell_same _ _ _ (cells k u hu)
  refine ⟨k + 1, by omega, rfl, fun j hj => ?_, fun j hj => ?_, fun j => ?_, ?_, ?_⟩
  · by_cases e : j = k
    · subst e; exact same
    · exact other j _ e (cells j _ (h1 j (by omega)))
  · by_cases e : j = k
    · subst e; exact ⟨_, same⟩
    · obtain ⟨u, hu⟩ := h2 j hj
      exact ⟨u, other j u e (cells j u hu)⟩
  · rw [World.frozen?_setCell, hb.frozen (p := ⟨g, j, none⟩) h5]; exact h3 j
  · exact (h4.trans (hb.mono (Nat.le_of_lt h5))).setCell (Nat.le_refl _) _
  · have := hb.size
    simp [World.setCell]; omega


/-- A table in a new block. -/
def TPost (w : World) (f : Nat → Bool) (e : Ending) (w' : World) : Prop :=
  ∃ g, w.heap.size ≤ g ∧ e = .returned (.slice (some ⟨g, 0, none⟩) 65536 65536) ∧ TAt w' (tl f) g 0 ∧ Below w.heap.size w w'

theorem ft_done {g : Nat} {f : Nat → Bool} {wr : World} (h : ∀ j, j < 65536 → wr.cell? ⟨g, j, none⟩ = some (.bool (f j))) : TAt wr (tl f) g 0 := by
  intro i hi
  rw [tl_length] at hi
  rw [Nat.zero_add, h i hi, List.getD_eq_getElem?_getD, tl_get f hi]
  rfl

set_option maxRecDepth 100000 in
set_option maxHeartbeats 1000000 in
theorem formulaTable_any {w0 : World} {F : Fm} {a : Option Addr} (h : FmAt w0 F a) (cap : Nat) (w : World) (hB : Below w0.heap.size w0 w) (hfa : fault F = 0) :
    Calls Try.prog 17 #[.agg #[.int .i64 F.op, .int .i64 F.var, .slice a F.kids.length cap]] w (TPost w (evF F)) := by
  have C1 := Lib.hid (fun (W : World) (hW : Below w0.heap.size w0 W) (x y : Nat) => True_any h cap W x y hW hfa)
  clear h hfa
  have B1 : Hid (Below w.heap.size w (w.alloc (.cells #[.int .i64 F.op, .int .i64 F.var, .slice a F.kids.length cap] 24))) := (Below.refl _ _).alloc (Nat.le_refl _) _
  have S1 : Hid ((w.alloc (.cells #[.int .i64 F.op, .int .i64 F.var, .slice a F.kids.length cap] 24)).heap.size = w.heap.size + 1) := by show _ = _; simp
  have X : Hid ((w.alloc (.cells #[.int .i64 F.op, .int .i64 F.var, .slice a F.kids.length cap] 24)).heap[w.heap.size]? = some (.cells #[.int .i64 F.op, .int .i64 F.var, .slice a F.kids.length cap] 24 (0, 0))) := heap_alloc_new w _
  obtain ⟨i0, hi0, hz0, hz1, hz2⟩ := info_parts info4
  obtain ⟨n, hn⟩ : ∃ n : Nat, n = 65536 := ⟨_, rfl⟩
  have hn1 : n ≤ 65536 := by omega
  have HN := Lib.hid hn; clear hn
  go_enter Try.func17, Try.ntmps17
  go_wp2_with (at_make; refine wpList_make_full _ rfl _ _ 33 rfl 0 4 i0 (.bool false) 1 Try.underlying33 hi0 hz0 hz1 .i64 .i64 65536 65536 n rfl rfl (by rw [HN.out]; rfl) (by rw [HN.out]; rfl) (by rw [hz2]; omega) (by unfold maxLen; omega) (Nat.zero_le _) ?_; intro w1 hown1 hg1; have OW := Lib.hid hown1; have GR := Lib.hid hg1; clear hown1 hg1)
  have B2 : Hid (Below (w.heap.size + 1) (w.alloc (.cells #[.int .i64 F.op, .int .i64 F.var, .slice a F.kids.length cap] 24)) w1) := ⟨GR.out.os, GR.out.tape, GR.out.output, GR.out.size, fun k hk => GR.out.block k (by rw [S1.out]; exact hk) (by simp)⟩
  have hs1 : Hid (w1.ownsRow 0 4 1 (.slice (some ⟨w.heap.size + 1, 0, none⟩) n n) n (madeCells (Value.bool false).cells (n * 1)).toList) := by
    have := OW.out
    rw [S1.out] at this
    exact this
  generalize w.alloc (.cells #[.int .i64 F.op, .int .i64 F.var, .slice a F.kids.length cap] 24) = wa at *
  have XB := Lib.hid ((B2.out.block w.heap.size (by omega)).trans X.out)
  obtain ⟨x0, x1, x2⟩ := cells3 XB.out
  have BW : Hid (Below w.heap.size w w1) := B1.out.trans (B2.out.mono (by omega))
  clear OW GR
  go_loopw [4] (fun i wr => FT n (w.heap.size + 1) (evF F) w1 i wr) (fun i _ => n - (intOf i).toNat)
  case atStart => exact ft_made hs1.out
  case round =>
    obtain ⟨k, hk, rfl, h1, h2, h3, h4, h5⟩ := hrel
    have y0 : wr.cell? ⟨w.heap.size, 0, none⟩ = some (.int .i64 F.op) := (h4.cell (p := ⟨w.heap.size, 0, none⟩) (by show w.heap.size < _; omega)).trans x0
    have y1 : wr.cell? ⟨w.heap.size, 1, none⟩ = some (.int .i64 F.var) := (h4.cell (p := ⟨w.heap.size, 1, none⟩) (by show w.heap.size < _; omega)).trans x1
    have y2 : wr.cell? ⟨w.heap.size, 2, none⟩ = some (.slice a F.kids.length cap) := (h4.cell (p := ⟨w.heap.size, 2, none⟩) (by show w.heap.size < _; omega)).trans x2
    have BR : Hid (Below w.heap.size w wr) := BW.out.trans (h4.mono (by omega))
    by_cases hkk : k < n
    · obtain ⟨u, hu⟩ := h2 k hkk
      have fz := h3 k
      have ST := Lib.hid (fun (w2 : World) (hb : Below wr.drew.heap.size wr.drew w2) => ft_step (f := evF F) hkk h1 h2 h3 h4 h5 (w2 := w2) ⟨hb.os, hb.tape, hb.output, hb.size, hb.block⟩)
      clear h1 h2 h3 h4 x0 x1 x2
      have i1 : (k : Int) < (n : Int) := by omega
      have i3 : (0 : Int) ≤ (k : Int) := by omega
      go_wp2_with fail
      go_region_held3 (fun W => W.cell? ⟨w.heap.size, 0, none⟩ = some (.int .i64 F.op) ∧ W.cell? ⟨w.heap.size, 1, none⟩ = some (.int .i64 F.var) ∧ W.cell? ⟨w.heap.size, 2, none⟩ = some (.slice a F.kids.length cap))
        (first
          | exact ⟨y0, y1, y2⟩
          | exact ⟨cell_later hb2 y0, cell_later hb2 y1, cell_later hb2 y2⟩
          | go_keep)
        (first
          | (go_at_call 50; refine (turned_any k _ (by omega)).mono ?_; rintro e w2 ⟨rfl, rfl⟩)
          | (go_at_call 49; refine (C1.out wr.drew ((Below.over hB hB.size BR.out).drew) (rv k 16) k (rv_lt k 16) (rv16 k)).mono ?_; rintro e w2 ⟨rfl, hb2⟩; have hu2 := cell_later hb2 hu; have fz2 : w2.frozen? ⟨w.heap.size + 1, k, none⟩ = false := ((hb2.frozen (p := ⟨w.heap.size + 1, k, none⟩) h5).trans fz)))
      have RR := Lib.hid (ST.out w2 hb2)
      clear hb2 hu2 fz2
      go_wp2_with fail
      go_roundw
      case rel => exact RR.out
      case measure => simp [intOf]; omega
    · obtain rfl : k = n := by omega
      have hT := ft_done (f := evF F) (wr := wr) (g := w.heap.size + 1) (by rw [← HN.out]; exact h1)
      have HT := Lib.hid hT
      clear hT h1 h2 h3 h4 y0 y1 y2 x0 x1 x2
      go_wp2_with fail
      go_ret
      exact ⟨w.heap.size + 1, by omega, by rw [HN.out]; rfl, HT.out, BR.out⟩

end Go.Proofs.Ythhogbligfmpdaa
