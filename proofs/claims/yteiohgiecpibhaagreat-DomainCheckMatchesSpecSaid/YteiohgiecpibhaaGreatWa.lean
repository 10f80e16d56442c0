/- domain.Check. -/
import Derived.Test.YteiohgiecpibhaaGreatHa
import Derived.Test.YteiohgiecpibhaaGreatPb
import Derived.Test.YteiohgiecpibhaaGreatProg
set_option linter.unusedVariables false
set_option linter.unusedSimpArgs false
set_option maxRecDepth 100000
set_option maxHeartbeats 4000000
namespace Go.Proofs.YteiohgiecpibhaaGreat
open Go.RowKit Fdm

/-- A domain in memory. -/
def DmAt (w : World) (d : Dm) (a : Option Addr) : Prop :=
  d ≠ [] → ∃ g o, a = some ⟨g, o, none⟩ ∧ ∀ i, i < d.length → w.cell? ⟨g, o + i * 2, none⟩ = some (.int .i64 (sp d i).1) ∧ w.cell? ⟨g, o + i * 2 + 1, none⟩ = some (.int .i64 (sp d i).2)
structure DmS (w : World) (d : Dm) (a : Option Addr) (n c : Nat) : Prop where
  at_ : DmAt w d a
  len : d.length = n
  le : n ≤ c
  cap : c ≤ 9223372036854775807
theorem DmAt.below {w w' : World} {d : Dm} {a : Option Addr} (h : DmAt w d a) (hb : Below w.heap.size w w') : DmAt w' d a := fun hne => by
  obtain ⟨g, o, e, k⟩ := h hne
  exact ⟨g, o, e, fun i hi => ⟨cell_later hb (Nat.le_refl _) (k i hi).1, cell_later hb (Nat.le_refl _) (k i hi).2⟩⟩
theorem DmS.below {w w' : World} {d : Dm} {a : Option Addr} {n c : Nat} (h : DmS w d a n c) (hb : Below w.heap.size w w') : DmS w' d a n c := ⟨h.at_.below hb, h.len, h.le, h.cap⟩
def CkPost (w : World) (z : Int) (e : Ending) (w' : World) : Prop := e = .returned (.int .i64 z) ∧ Below w.heap.size w w'
theorem over {a b c : World} (h : Below a.heap.size a b) (k : Below b.heap.size b c) : Below a.heap.size a c := h.trans (k.mono h.size)
theorem wrap_in {z : Int} (h1 : -9223372036854775808 ≤ z) (h2 : z ≤ 9223372036854775807) : IntKind.i64.wrap z = z := by rw [IntKind.wrap_i64]; omega

def CkL (w : World) (d : Dm) (i : Value) (wr : World) : Prop := ∃ k : Nat, k ≤ d.length ∧ i = .int .i64 (k : Int) ∧ spansTo d k = 0 ∧ Below w.heap.size w wr
theorem check_mid {w : World} {d : Dm} {a : Option Addr} {n c : Nat} (h : DmS w d a n c) (h1 : 0 < n) (h2 : n ≤ 256) : Calls Tryz.prog 12 #[.slice a n c] w (CkPost w (chkD d)) := by
  have E : Hid (chkD d = spansTo d d.length) := by show _ = _; unfold chkD; rw [if_neg (by rw [h.len]; omega), if_neg (by rw [h.len]; omega)]
  have HD := Lib.hid h.at_; have HN := Lib.hid h.len
  have hc1 := h.le; have hc2 := h.cap
  have hn0 : ((n : Int) == 0) = false := by simp; omega
  clear h
  go_enter Tryz.func12, Tryz.ntmps12
  go_wp2_with fail
  go_loopw [15] (fun i wr => CkL w d i wr) (fun i _ => n - (intOf i).toNat)
  case atStart => exact ⟨0, Nat.zero_le _, rfl, rfl, Below.refl _ _⟩
  obtain ⟨k, hk, rfl, hz, hBr⟩ := hrel
  have Z := Lib.hid hz; have BR := Lib.hid hBr
  rw [HN.out] at hk
  clear hz hBr
  by_cases hlt : k < n
  · obtain ⟨g, o, rfl, dd⟩ := HD.out (by intro e; have := HN.out; rw [e] at this; simp at this; omega)
    obtain ⟨p0, p1⟩ := dd k (by rw [HN.out]; exact hlt)
    have PV := Lib.hid (fun (h : 0 < k) => (show w.cell? ⟨g, o + (k - 1) * 2 + 1, none⟩ = some (.int .i64 (sp d (k - 1)).2) from (dd (k - 1) (by rw [HN.out]; omega)).2))
    clear dd
    have CA : Hid (spanF d k = if (sp d k).1 < -16384 ∨ 16384 < (sp d k).2 ∨ (sp d k).2 < (sp d k).1 then 1 else if 0 < k ∧ (sp d k).1 ≤ (sp d (k - 1)).2 + 1 then 2 else 0) := rfl
    have ST := Lib.hid (fun (z : Int) (h : spanF d k = z) (h0 : z ≠ 0) => (show chkD d = z by rw [E.out, HN.out, spansTo_stay Z.out (by rw [h]; exact h0) hlt, h]))
    obtain ⟨x, hx⟩ : ∃ x, (sp d k).1 = x := ⟨_, rfl⟩
    obtain ⟨y, hy⟩ : ∃ y, (sp d k).2 = y := ⟨_, rfl⟩
    rw [hx] at p0 CA
    rw [hy] at p1 CA
    have p0 := cell_later BR.out (Nat.le_refl _) p0
    have p1 := cell_later BR.out (Nat.le_refl _) p1
    have B2 : Hid (Below wr.heap.size wr (wr.alloc (.cells #[.int .i64 x, .int .i64 y] 63))) := below_new _ _
    clear hx hy
    by_cases c1 : x < -16384
    · have E1 := Lib.hid (ST.out 1 (by rw [CA.out, if_pos (Or.inl c1)]) (by omega))
      go_wp2_with fail
      go_ret
      exact ⟨by rw [E1.out]; rfl, over BR.out B2.out⟩
    by_cases c2 : 16384 < y
    · have E1 := Lib.hid (ST.out 1 (by rw [CA.out, if_pos (Or.inr (Or.inl c2))]) (by omega))
      have x0 : -16384 ≤ x := by omega
      clear c1
      go_wp2_with fail
      go_ret
      exact ⟨by rw [E1.out]; rfl, over BR.out B2.out⟩
    by_cases c3 : y < x
    · have E1 := Lib.hid (ST.out 1 (by rw [CA.out, if_pos (Or.inr (Or.inr c3))]) (by omega))
      have x0 : -16384 ≤ x := by omega
      have y0 : y ≤ 16384 := by omega
      clear c1 c2
      go_wp2_with fail
      go_ret
      exact ⟨by rw [E1.out]; rfl, over BR.out B2.out⟩
    have x0 : -16384 ≤ x := by omega
    have y0 : y ≤ 16384 := by omega
    have xy : x ≤ y := by omega
    have CA2 : Hid (spanF d k = if 0 < k ∧ x ≤ (sp d (k - 1)).2 + 1 then 2 else 0) := by show _ = _; rw [CA.out, if_neg (by omega)]
    clear c1 c2 c3 CA
    have NW : Hid ((wr.alloc (.cells #[.int .i64 x, .int .i64 y] 63)).heap[wr.heap.size]? = some (.cells #[.int .i64 x, .int .i64 y] 63 (0, 0))) := heap_alloc_new wr _
    have B3 := Lib.hid (over BR.out B2.out)
    go_upto_region 10 with fail
    clear p0 p1 x0 y0 xy
    generalize wr.alloc (.cells #[.int .i64 x, .int .i64 y] 63) = WA at *
    have n0 : WA.cell? ⟨wr.heap.size, 0, none⟩ = some (.int .i64 x) := by rw [cell_of_row WA wr.heap.size 0 _ _ _ NW.out]; rfl
    by_cases k0 : k = 0
    · subst k0
      have NX : Hid (spansTo d 1 = 0) := spansTo_next Z.out (by rw [CA2.out]; exact if_neg (by omega))
      go_quiet (fail)
      go_wp2_with fail
      go_roundw
      case rel => exact ⟨1, by rw [HN.out]; omega, by go_num, NX.out, over B3.out (Qt.below ⟨nq, rfl⟩)⟩
      simp [intOf]; omega
    have pz := cell_later B3.out (Nat.le_refl _) (PV.out (by omega))
    have zb := spanF_zero (spansTo_all Z.out (show k - 1 < k by omega))
    obtain ⟨z, hz⟩ : ∃ z, (sp d (k - 1)).2 = z := ⟨_, rfl⟩
    rw [hz] at pz CA2
    have zw : IntKind.i64.wrap (z + 1) = z + 1 := wrap_in (by omega) (by omega)
    have i1 : ((k : Int) - 1) = ((k - 1 : Nat) : Int) := by omega
    have kz' : decide (0 < k) = true := by simp; omega
    have kz2 : 0 < k := by omega
    have kz : (0 : Int) < (k : Int) := by omega
    have kl : (((k - 1 : Nat) : Int)) < (n : Int) := by omega
    have kl0 : (0 : Int) ≤ ((k - 1 : Nat) : Int) := by omega
    clear zb hz
    by_cases c3 : x ≤ z + 1
    · have E1 := Lib.hid (ST.out 2 (by rw [CA2.out]; exact if_pos ⟨by omega, c3⟩) (by omega))
      have zl' : decide (x ≤ z + 1) = true := by simp; exact c3
      clear k0
      go_quiet (fail)
      go_wp2_with fail
      go_ret
      exact ⟨by rw [E1.out]; rfl, by obtain ⟨q, hq⟩ : ∃ q, q = nq := ⟨_, rfl⟩; exact over B3.out (Qt.below ⟨nq, rfl⟩)⟩
    have NX := Lib.hid (spansTo_next Z.out (by rw [CA2.out]; exact if_neg (by omega)))
    have zl' : decide (x ≤ z + 1) = false := by simp; omega
    have zl2 : z + 1 < x := by omega
    clear k0 c3
    go_quiet (fail)
    go_wp2_with fail
    go_roundw
    case rel => exact ⟨k + 1, by rw [HN.out]; omega, by go_num, NX.out, over B3.out (Qt.below ⟨nq, rfl⟩)⟩
    simp [intOf]; omega
  obtain rfl : n = k := by omega
  have E2 : Hid (chkD d = 0) := by show _ = _; rw [E.out, HN.out]; exact Z.out
  go_wp2_with fail
  go_ret
  exact ⟨by rw [E2.out]; rfl, BR.out⟩
theorem check_any {w : World} {d : Dm} {a : Option Addr} {n c : Nat} (h : DmS w d a n c) : Calls Tryz.prog 12 #[.slice a n c] w (CkPost w (chkD d)) := by
  by_cases h0 : n = 0
  · have E : Hid (chkD d = 15) := by show _ = _; unfold chkD; rw [if_neg (by rw [h.len]; omega), if_pos (by rw [h.len]; exact h0)]
    clear h
    subst h0
    go_enter Tryz.func12, Tryz.ntmps12
    go_wp2_with fail
    go_ret
    exact ⟨by rw [E.out]; rfl, Below.refl _ _⟩
  by_cases h2 : n ≤ 256
  · exact check_mid h (by omega) h2
  have E : Hid (chkD d = 3) := by show _ = _; unfold chkD; rw [if_pos (by rw [h.len]; omega)]
  have h9 : (256 : Int) < (n : Int) := by omega
  clear h h0 h2
  go_enter Tryz.func12, Tryz.ntmps12
  go_wp2_with fail
  go_ret
  exact ⟨by rw [E.out]; rfl, Below.refl _ _⟩
end Go.Proofs.YteiohgiecpibhaaGreat
