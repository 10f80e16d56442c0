/- The reference's function that looks for a formula's first fault. -/
import Derived.Test.YthhogbligfmpdaaWg
set_option linter.unusedVariables false
set_option linter.unusedSimpArgs false
namespace Go.Proofs.Ythhogbligfmpdaa
open Go.RowKit Bd

set_option maxRecDepth 100000 in
set_option maxHeartbeats 1000000 in
theorem formulaFault_any {w0 : World} {F : Fm} {a : Option Addr} (h : FmAt w0 F a) : ∀ (cap : Nat) (w : World), Below w0.heap.size w0 w →
    Calls Try.prog 45 #[.agg #[.int .i64 F.op, .int .i64 F.var, .slice a F.kids.length cap]] w fun e w' => e = .returned (.int .i64 (fault F)) ∧ Below w.heap.size w w' := by
  induction h with
  | mk op var kids a A Cp hl h hk ih =>
  intro cap w hB
  have IH := Lib.hid ih; clear ih
  have H := Lib.hid h; clear h
  have HK := Lib.hid hk; clear hk
  simp only [Fm.op, Fm.var, Fm.kids]
  by_cases hop : op < 1 ∨ 7 < op
  · have hf : fault (.mk op var kids) = 7 := by rw [fault_of_own] <;> simp [own, hop]
    rw [hf]; clear hf
    rcases hop with hop | hop
    all_goals
      go_enter Try.func45, Try.ntmps45
      go_wp2_with fail
      go_ret
      exact ⟨rfl, (Below.refl _ _).alloc (Nat.le_refl _) _⟩
  · have h7 : op = 1 ∨ op = 2 ∨ op = 3 ∨ op = 4 ∨ op = 5 ∨ op = 6 ∨ op = 7 := by omega
    by_cases hw : kids.length = want op kids.length
    · by_cases hv : var < 0 ∨ mostVar op < var
      · have hf : fault (.mk op var kids) = 1 := by rw [fault_of_own] <;> simp [own, hop, ← hw, hv]
        rw [hf]; clear hf hop
        rcases h7 with rfl | rfl | rfl | rfl | rfl | rfl | rfl
        all_goals
          simp [want, mostVar] at hw hv
          rcases hv with hv | hv
          all_goals
            go_enter Try.func45, Try.ntmps45
            go_wp2_with fail
            go_ret
            exact ⟨rfl, (Below.refl _ _).alloc (Nat.le_refl _) _⟩
      · have hf : fault (.mk op var kids) = fault.faultL kids := fault_of_kids (by simp [own, hop, ← hw, hv])
        rw [hf]; clear hf hop
        have hv0 : 0 ≤ var := by omega
        have hv1 : var ≤ mostVar op := by omega
        clear hv
        rcases h7 with rfl | rfl | rfl | rfl | rfl | rfl | rfl
        · simp [mostVar] at hv1
          have HW := Lib.hid hw; clear hw
          have hb : ((kids.length : Int) != 0) = false := by (have := HW.out; rw [bne_eq_false_iff_eq]; simp only [want] at this; simp at this; simp [this])
          go_enter Try.func45, Try.ntmps45
          go_wp2_with fail
          have B1 : Hid (Below w.heap.size w (w.alloc (.cells #[.int .i64 1, .int .i64 var, .slice a kids.length cap] 24))) := (Below.refl _ _).alloc (Nat.le_refl _) _
          have S1 : Hid ((w.alloc (.cells #[.int .i64 1, .int .i64 var, .slice a kids.length cap] 24)).heap.size = w.heap.size + 1) := by show _ = _; simp
          have x2 : (w.alloc (.cells #[.int .i64 1, .int .i64 var, .slice a kids.length cap] 24)).cell? ⟨w.heap.size, 2, none⟩ = some (.slice a kids.length cap) := by simp
          generalize w.alloc (.cells #[.int .i64 1, .int .i64 var, .slice a kids.length cap] 24) = w1 at *
          go_loopw [5] (fun i wr => ∃ k : Nat, k ≤ kids.length ∧ i = .int .i64 k ∧ fault.faultL (kids.take k) = 0 ∧ Below w1.heap.size w1 wr) (fun i _ => kids.length - (intOf i).toNat)
          case atStart => exact ⟨0, Nat.zero_le _, rfl, by simp [fault.faultL], Below.refl _ _⟩
          case round =>
            obtain ⟨k, hkl, rfl, hfl, hb⟩ := hrel
            have HF := Lib.hid hfl; clear hfl
            have y2 : wr.cell? ⟨w.heap.size, 2, none⟩ = some (.slice a kids.length cap) := (hb.cell (p := ⟨w.heap.size, 2, none⟩) (by rw [S1.out]; show w.heap.size < _; omega)).trans x2
            have HB := Lib.hid hb; clear hb x2
            have BA := Lib.hid (Below.over B1.out B1.out.size HB.out)
            by_cases hkk : k < kids.length
            · obtain ⟨b, o, rfl, hc⟩ := H.out (by intro e; rw [e] at hkk; simp at hkk)
              obtain ⟨c0, c1, c2⟩ := kid_cells (Below.over hB hB.size BA.out) (hc k hkk)
              have HC := Lib.hid hc; clear hc
              go_wp2_with fail
              refine (IH.out k hkk (Cp k) _ (Below.over hB hB.size BA.out)).mono ?_
              rintro e w' ⟨rfl, hb'⟩
              have HB' := Lib.hid hb'; clear hb'
              have hft := faultL_take kids k hkk HF.out
              have HFT := Lib.hid hft; clear hft
              by_cases hfz : fault kids[k] = 0
              · have hz : (fault kids[k] != 0) = false := by simp [hfz]
                have HFZ := Lib.hid hfz; clear hfz
                go_wp2_with fail
                go_roundw
                case rel => exact ⟨k + 1, by omega, by go_num, by rw [HFT.out, HFZ.out], Below.over HB.out HB.out.size HB'.out⟩
                case measure => simp [intOf]; omega
              · have hz : (fault kids[k] != 0) = true := by simp [hfz]
                have hst := faultL_stop kids (k + 1) (by rw [HFT.out]; exact hfz)
                have HST := Lib.hid hst; clear hst hfz
                go_wp2_with fail
                go_ret
                refine ⟨by (rw [HST.out, HFT.out]; rfl), Below.over BA.out BA.out.size HB'.out⟩
            · have hks : kids.take k = kids := List.take_of_length_le (by omega)
              have HKS := Lib.hid hks; clear hks
              go_wp2_with fail
              go_ret
              refine ⟨?_, BA.out⟩
              have := HF.out
              rw [HKS.out] at this
              rw [this]; rfl
        · simp [mostVar] at hv1
          have HW := Lib.hid hw; clear hw
          have hb : ((kids.length : Int) != 0) = false := by (have := HW.out; rw [bne_eq_false_iff_eq]; simp only [want] at this; simp at this; simp [this])
          go_enter Try.func45, Try.ntmps45
          go_wp2_with fail
          have B1 : Hid (Below w.heap.size w (w.alloc (.cells #[.int .i64 2, .int .i64 var, .slice a kids.length cap] 24))) := (Below.refl _ _).alloc (Nat.le_refl _) _
          have S1 : Hid ((w.alloc (.cells #[.int .i64 2, .int .i64 var, .slice a kids.length cap] 24)).heap.size = w.heap.size + 1) := by show _ = _; simp
          have x2 : (w.alloc (.cells #[.int .i64 2, .int .i64 var, .slice a kids.length cap] 24)).cell? ⟨w.heap.size, 2, none⟩ = some (.slice a kids.length cap) := by simp
          generalize w.alloc (.cells #[.int .i64 2, .int .i64 var, .slice a kids.length cap] 24) = w1 at *
          go_loopw [5] (fun i wr => ∃ k : Nat, k ≤ kids.length ∧ i = .int .i64 k ∧ fault.faultL (kids.take k) = 0 ∧ Below w1.heap.size w1 wr) (fun i _ => kids.length - (intOf i).toNat)
          case atStart => exact ⟨0, Nat.zero_le _, rfl, by simp [fault.faultL], Below.refl _ _⟩
          case round =>
            obtain ⟨k, hkl, rfl, hfl, hb⟩ := hrel
            have HF := Lib.hid hfl; clear hfl
            have y2 : wr.cell? ⟨w.heap.size, 2, none⟩ = some (.slice a kids.length cap) := (hb.cell (p := ⟨w.heap.size, 2, none⟩) (by rw [S1.out]; show w.heap.size < _; omega)).trans x2
            have HB := Lib.hid hb; clear hb x2
            have BA := Lib.hid (Below.over B1.out B1.out.size HB.out)
            by_cases hkk : k < kids.length
            · obtain ⟨b, o, rfl, hc⟩ := H.out (by intro e; rw [e] at hkk; simp at hkk)
              obtain ⟨c0, c1, c2⟩ := kid_cells (Below.over hB hB.size BA.out) (hc k hkk)
              have HC := Lib.hid hc; clear hc
              go_wp2_with fail
              refine (IH.out k hkk (Cp k) _ (Below.over hB hB.size BA.out)).mono ?_
              rintro e w' ⟨rfl, hb'⟩
              have HB' := Lib.hid hb'; clear hb'
              have hft := faultL_take kids k hkk HF.out
              have HFT := Lib.hid hft; clear hft
              by_cases hfz : fault kids[k] = 0
              · have hz : (fault kids[k] != 0) = false := by simp [hfz]
                have HFZ := Lib.hid hfz; clear hfz
                go_wp2_with fail
                go_roundw
                case rel => exact ⟨k + 1, by omega, by go_num, by rw [HFT.out, HFZ.out], Below.over HB.out HB.out.size HB'.out⟩
                case measure => simp [intOf]; omega
              · have hz : (fault kids[k] != 0) = true := by simp [hfz]
                have hst := faultL_stop kids (k + 1) (by rw [HFT.out]; exact hfz)
                have HST := Lib.hid hst; clear hst hfz
                go_wp2_with fail
                go_ret
                refine ⟨by (rw [HST.out, HFT.out]; rfl), Below.over BA.out BA.out.size HB'.out⟩
            · have hks : kids.take k = kids := List.take_of_length_le (by omega)
              have HKS := Lib.hid hks; clear hks
              go_wp2_with fail
              go_ret
              refine ⟨?_, BA.out⟩
              have := HF.out
              rw [HKS.out] at this
              rw [this]; rfl
        · simp [mostVar] at hv1
          have HW := Lib.hid hw; clear hw
          have hb : ((kids.length : Int) != 1) = false := by (have := HW.out; rw [bne_eq_false_iff_eq]; simp only [want] at this; simp at this; simp [this])
          go_enter Try.func45, Try.ntmps45
          go_wp2_with fail
          have B1 : Hid (Below w.heap.size w (w.alloc (.cells #[.int .i64 3, .int .i64 var, .slice a kids.length cap] 24))) := (Below.refl _ _).alloc (Nat.le_refl _) _
          have S1 : Hid ((w.alloc (.cells #[.int .i64 3, .int .i64 var, .slice a kids.length cap] 24)).heap.size = w.heap.size + 1) := by show _ = _; simp
          have x2 : (w.alloc (.cells #[.int .i64 3, .int .i64 var, .slice a kids.length cap] 24)).cell? ⟨w.heap.size, 2, none⟩ = some (.slice a kids.length cap) := by simp
          generalize w.alloc (.cells #[.int .i64 3, .int .i64 var, .slice a kids.length cap] 24) = w1 at *
          go_loopw [5] (fun i wr => ∃ k : Nat, k ≤ kids.length ∧ i = .int .i64 k ∧ fault.faultL (kids.take k) = 0 ∧ Below w1.heap.size w1 wr) (fun i _ => kids.length - (intOf i).toNat)
          case atStart => exact ⟨0, Nat.zero_le _, rfl, by simp [fault.faultL], Below.refl _ _⟩
          case round =>
            obtain ⟨k, hkl, rfl, hfl, hb⟩ := hrel
            have HF := Lib.hid hfl; clear hfl
            have y2 : wr.cell? ⟨w.heap.size, 2, none⟩ = some (.slice a kids.length cap) := (hb.cell (p := ⟨w.heap.size, 2, none⟩) (by rw [S1.out]; show w.heap.size < _; omega)).trans x2
            have HB := Lib.hid hb; clear hb x2
            have BA := Lib.hid (Below.over B1.out B1.out.size HB.out)
            by_cases hkk : k < kids.length
            · obtain ⟨b, o, rfl, hc⟩ := H.out (by intro e; rw [e] at hkk; simp at hkk)
              obtain ⟨c0, c1, c2⟩ := kid_cells (Below.over hB hB.size BA.out) (hc k hkk)
              have HC := Lib.hid hc; clear hc
              go_wp2_with fail
              refine (IH.out k hkk (Cp k) _ (Below.over hB hB.size BA.out)).mono ?_
              rintro e w' ⟨rfl, hb'⟩
              have HB' := Lib.hid hb'; clear hb'
              have hft := faultL_take kids k hkk HF.out
              have HFT := Lib.hid hft; clear hft
              by_cases hfz : fault kids[k] = 0
              · have hz : (fault kids[k] != 0) = false := by simp [hfz]
                have HFZ := Lib.hid hfz; clear hfz
                go_wp2_with fail
                go_roundw
                case rel => exact ⟨k + 1, by omega, by go_num, by rw [HFT.out, HFZ.out], Below.over HB.out HB.out.size HB'.out⟩
                case measure => simp [intOf]; omega
              · have hz : (fault kids[k] != 0) = true := by simp [hfz]
                have hst := faultL_stop kids (k + 1) (by rw [HFT.out]; exact hfz)
                have HST := Lib.hid hst; clear hst hfz
                go_wp2_with fail
                go_ret
                refine ⟨by (rw [HST.out, HFT.out]; rfl), Below.over BA.out BA.out.size HB'.out⟩
            · have hks : kids.take k = kids := List.take_of_length_le (by omega)
              have HKS := Lib.hid hks; clear hks
              go_wp2_with fail
              go_ret
              refine ⟨?_, BA.out⟩
              have := HF.out
              rw [HKS.out] at this
              rw [this]; rfl
        · simp [mostVar] at hv1
          have HW := Lib.hid hw; clear hw
          have hb : ((kids.length : Int) != kids.length) = false := by simp
          go_enter Try.func45, Try.ntmps45
          go_wp2_with fail
          have B1 : Hid (Below w.heap.size w (w.alloc (.cells #[.int .i64 4, .int .i64 var, .slice a kids.length cap] 24))) := (Below.refl _ _).alloc (Nat.le_refl _) _
          have S1 : Hid ((w.alloc (.cells #[.int .i64 4, .int .i64 var, .slice a kids.length cap] 24)).heap.size = w.heap.size + 1) := by show _ = _; simp
          have x2 : (w.alloc (.cells #[.int .i64 4, .int .i64 var, .slice a kids.length cap] 24)).cell? ⟨w.heap.size, 2, none⟩ = some (.slice a kids.length cap) := by simp
          generalize w.alloc (.cells #[.int .i64 4, .int .i64 var, .slice a kids.length cap] 24) = w1 at *
          go_loopw [5] (fun i wr => ∃ k : Nat, k ≤ kids.length ∧ i = .int .i64 k ∧ fault.faultL (kids.take k) = 0 ∧ Below w1.heap.size w1 wr) (fun i _ => kids.length - (intOf i).toNat)
          case atStart => exact ⟨0, Nat.zero_le _, rfl, by simp [fault.faultL], Below.refl _ _⟩
          case round =>
            obtain ⟨k, hkl, rfl, hfl, hb⟩ := hrel
            have HF := Lib.hid hfl; clear hfl
            have y2 : wr.cell? ⟨w.heap.size, 2, none⟩ = some (.slice a kids.length cap) := (hb.cell (p := ⟨w.heap.size, 2, none⟩) (by rw [S1.out]; show w.heap.size < _; omega)).trans x2
            have HB := Lib.hid hb; clear hb x2
            have BA := Lib.hid (Below.over B1.out B1.out.size HB.out)
            by_cases hkk : k < kids.length
            · obtain ⟨b, o, rfl, hc⟩ := H.out (by intro e; rw [e] at hkk; simp at hkk)
              obtain ⟨c0, c1, c2⟩ := kid_cells (Below.over hB hB.size BA.out) (hc k hkk)
              have HC := Lib.hid hc; clear hc
              go_wp2_with fail
              refine (IH.out k hkk (Cp k) _ (Below.over hB hB.size BA.out)).mono ?_
              rintro e w' ⟨rfl, hb'⟩
              have HB' := Lib.hid hb'; clear hb'
              have hft := faultL_take kids k hkk HF.out
              have HFT := Lib.hid hft; clear hft
              by_cases hfz : fault kids[k] = 0
              · have hz : (fault kids[k] != 0) = false := by simp [hfz]
                have HFZ := Lib.hid hfz; clear hfz
                go_wp2_with fail
                go_roundw
                case rel => exact ⟨k + 1, by omega, by go_num, by rw [HFT.out, HFZ.out], Below.over HB.out HB.out.size HB'.out⟩
                case measure => simp [intOf]; omega
              · have hz : (fault kids[k] != 0) = true := by simp [hfz]
                have hst := faultL_stop kids (k + 1) (by rw [HFT.out]; exact hfz)
                have HST := Lib.hid hst; clear hst hfz
                go_wp2_with fail
                go_ret
                refine ⟨by (rw [HST.out, HFT.out]; rfl), Below.over BA.out BA.out.size HB'.out⟩
            · have hks : kids.take k = kids := List.take_of_length_le (by omega)
              have HKS := Lib.hid hks; clear hks
              go_wp2_with fail
              go_ret
              refine ⟨?_, BA.out⟩
              have := HF.out
              rw [HKS.out] at this
              rw [this]; rfl
        · simp [mostVar] at hv1
          have HW := Lib.hid hw; clear hw
          have hb : ((kids.length : Int) != kids.length) = false := by simp
          go_enter Try.func45, Try.ntmps45
          go_wp2_with fail
          have B1 : Hid (Below w.heap.size w (w.alloc (.cells #[.int .i64 5, .int .i64 var, .slice a kids.length cap] 24))) := (Below.refl _ _).alloc (Nat.le_refl _) _
          have S1 : Hid ((w.alloc (.cells #[.int .i64 5, .int .i64 var, .slice a kids.length cap] 24)).heap.size = w.heap.size + 1) := by show _ = _; simp
          have x2 : (w.alloc (.cells #[.int .i64 5, .int .i64 var, .slice a kids.length cap] 24)).cell? ⟨w.heap.size, 2, none⟩ = some (.slice a kids.length cap) := by simp
          generalize w.alloc (.cells #[.int .i64 5, .int .i64 var, .slice a kids.length cap] 24) = w1 at *
          go_loopw [5] (fun i wr => ∃ k : Nat, k ≤ kids.length ∧ i = .int .i64 k ∧ fault.faultL (kids.take k) = 0 ∧ Below w1.heap.size w1 wr) (fun i _ => kids.length - (intOf i).toNat)
          case atStart => exact ⟨0, Nat.zero_le _, rfl, by simp [fault.faultL], Below.refl _ _⟩
          case round =>
            obtain ⟨k, hkl, rfl, hfl, hb⟩ := hrel
            have HF := Lib.hid hfl; clear hfl
            have y2 : wr.cell? ⟨w.heap.size, 2, none⟩ = some (.slice a kids.length cap) := (hb.cell (p := ⟨w.heap.size, 2, none⟩) (by rw [S1.out]; show w.heap.size < _; omega)).trans x2
            have HB := Lib.hid hb; clear hb x2
            have BA := Lib.hid (Below.over B1.out B1.out.size HB.out)
            by_cases hkk : k < kids.length
            · obtain ⟨b, o, rfl, hc⟩ := H.out (by intro e; rw [e] at hkk; simp at hkk)
              obtain ⟨c0, c1, c2⟩ := kid_cells (Below.over hB hB.size BA.out) (hc k hkk)
              have HC := Lib.hid hc; clear hc
              go_wp2_with fail
              refine (IH.out k hkk (Cp k) _ (Below.over hB hB.size BA.out)).mono ?_
              rintro e w' ⟨rfl, hb'⟩
              have HB' := Lib.hid hb'; clear hb'
              have hft := faultL_take kids k hkk HF.out
              have HFT := Lib.hid hft; clear hft
              by_cases hfz : fault kids[k] = 0
              · have hz : (fault kids[k] != 0) = false := by simp [hfz]
                have HFZ := Lib.hid hfz; clear hfz
                go_wp2_with fail
                go_roundw
                case rel => exact ⟨k + 1, by omega, by go_num, by rw [HFT.out, HFZ.out], Below.over HB.out HB.out.size HB'.out⟩
                case measure => simp [intOf]; omega
              · have hz : (fault kids[k] != 0) = true := by simp [hfz]
                have hst := faultL_stop kids (k + 1) (by rw [HFT.out]; exact hfz)
                have HST := Lib.hid hst; clear hst hfz
                go_wp2_with fail
                go_ret
                refine ⟨by (rw [HST.out, HFT.out]; rfl), Below.over BA.out BA.out.size HB'.out⟩
            · have hks : kids.take k = kids := List.take_of_length_le (by omega)
              have HKS := Lib.hid hks; clear hks
              go_wp2_with fail
              go_ret
              refine ⟨?_, BA.out⟩
              have := HF.out
              rw [HKS.out] at this
              rw [this]; rfl
        · simp [mostVar] at hv1
          have HW := Lib.hid hw; clear hw
          have hb : ((kids.length : Int) != 2) = false := by (have := HW.out; rw [bne_eq_false_iff_eq]; simp only [want] at this; simp at this; simp [this])
          go_enter Try.func45, Try.ntmps45
          go_wp2_with fail
          have B1 : Hid (Below w.heap.size w (w.alloc (.cells #[.int .i64 6, .int .i64 var, .slice a kids.length cap] 24))) := (Below.refl _ _).alloc (Nat.le_refl _) _
          have S1 : Hid ((w.alloc (.cells #[.int .i64 6, .int .i64 var, .slice a kids.length cap] 24)).heap.size = w.heap.size + 1) := by show _ = _; simp
          have x2 : (w.alloc (.cells #[.int .i64 6, .int .i64 var, .slice a kids.length cap] 24)).cell? ⟨w.heap.size, 2, none⟩ = some (.slice a kids.length cap) := by simp
          generalize w.alloc (.cells #[.int .i64 6, .int .i64 var, .slice a kids.length cap] 24) = w1 at *
          go_loopw [5] (fun i wr => ∃ k : Nat, k ≤ kids.length ∧ i = .int .i64 k ∧ fault.faultL (kids.take k) = 0 ∧ Below w1.heap.size w1 wr) (fun i _ => kids.length - (intOf i).toNat)
          case atStart => exact ⟨0, Nat.zero_le _, rfl, by simp [fault.faultL], Below.refl _ _⟩
          case round =>
            obtain ⟨k, hkl, rfl, hfl, hb⟩ := hrel
            have HF := Lib.hid hfl; clear hfl
            have y2 : wr.cell? ⟨w.heap.size, 2, none⟩ = some (.slice a kids.length cap) := (hb.cell (p := ⟨w.heap.size, 2, none⟩) (by rw [S1.out]; show w.heap.size < _; omega)).trans x2
            have HB := Lib.hid hb; clear hb x2
            have BA := Lib.hid (Below.over B1.out B1.out.size HB.out)
            by_cases hkk : k < kids.length
            · obtain ⟨b, o, rfl, hc⟩ := H.out (by intro e; rw [e] at hkk; simp at hkk)
              obtain ⟨c0, c1, c2⟩ := kid_cells (Below.over hB hB.size BA.out) (hc k hkk)
              have HC := Lib.hid hc; clear hc
              go_wp2_with fail
              refine (IH.out k hkk (Cp k) _ (Below.over hB hB.size BA.out)).mono ?_
              rintro e w' ⟨rfl, hb'⟩
              have HB' := Lib.hid hb'; clear hb'
              have hft := faultL_take kids k hkk HF.out
              have HFT := Lib.hid hft; clear hft
              by_cases hfz : fault kids[k] = 0
              · have hz : (fault kids[k] != 0) = false := by simp [hfz]
                have HFZ := Lib.hid hfz; clear hfz
                go_wp2_with fail
                go_roundw
                case rel => exact ⟨k + 1, by omega, by go_num, by rw [HFT.out, HFZ.out], Below.over HB.out HB.out.size HB'.out⟩
                case measure => simp [intOf]; omega
              · have hz : (fault kids[k] != 0) = true := by simp [hfz]
                have hst := faultL_stop kids (k + 1) (by rw [HFT.out]; exact hfz)
                have HST := Lib.hid hst; clear hst hfz
                go_wp2_with fail
                go_ret
                refine ⟨by (rw [HST.out, HFT.out]; rfl), Below.over BA.out BA.out.size HB'.out⟩
            · have hks : kids.take k = kids := List.take_of_length_le (by omega)
              have HKS := Lib.hid hks; clear hks
              go_wp2_with fail
              go_ret
              refine ⟨?_, BA.out⟩
              have := HF.out
              rw [HKS.out] at this
              rw [this]; rfl
        · simp [mostVar] at hv1
          have HW := Lib.hid hw; clear hw
          have hb : ((kids.length : Int) != 3) = false := by (have := HW.out; rw [bne_eq_false_iff_eq]; simp only [want] at this; simp at this; simp [this])
          go_enter Try.func45, Try.ntmps45
          go_wp2_with fail
          have B1 : Hid (Below w.heap.size w (w.alloc (.cells #[.int .i64 7, .int .i64 var, .slice a kids.length cap] 24))) := (Below.refl _ _).alloc (Nat.le_refl _) _
          have S1 : Hid ((w.alloc (.cells #[.int .i64 7, .int .i64 var, .slice a kids.length cap] 24)).heap.size = w.heap.size + 1) := by show _ = _; simp
          have x2 : (w.alloc (.cells #[.int .i64 7, .int .i64 var, .slice a kids.length cap] 24)).cell? ⟨w.heap.size, 2, none⟩ = some (.slice a kids.length cap) := by simp
          generalize w.alloc (.cells #[.int .i64 7, .int .i64 var, .slice a kids.length cap] 24) = w1 at *
          go_loopw [5] (fun i wr => ∃ k : Nat, k ≤ kids.length ∧ i = .int .i64 k ∧ fault.faultL (kids.take k) = 0 ∧ Below w1.heap.size w1 wr) (fun i _ => kids.length - (intOf i).toNat)
          case atStart => exact ⟨0, Nat.zero_le _, rfl, by simp [fault.faultL], Below.refl _ _⟩
          case round =>
            obtain ⟨k, hkl, rfl, hfl, hb⟩ := hrel
            have HF := Lib.hid hfl; clear hfl
            have y2 : wr.cell? ⟨w.heap.size, 2, none⟩ = some (.slice a kids.length cap) := (hb.cell (p := ⟨w.heap.size, 2, none⟩) (by rw [S1.out]; show w.heap.size < _; omega)).trans x2
            have HB := Lib.hid hb; clear hb x2
            have BA := Lib.hid (Below.over B1.out B1.out.size HB.out)
            by_cases hkk : k < kids.length
            · obtain ⟨b, o, rfl, hc⟩ := H.out (by intro e; rw [e] at hkk; simp at hkk)
              obtain ⟨c0, c1, c2⟩ := kid_cells (Below.over hB hB.size BA.out) (hc k hkk)
              have HC := Lib.hid hc; clear hc
              go_wp2_with fail
              refine (IH.out k hkk (Cp k) _ (Below.over hB hB.size BA.out)).mono ?_
              rintro e w' ⟨rfl, hb'⟩
              have HB' := Lib.hid hb'; clear hb'
              have hft := faultL_take kids k hkk HF.out
              have HFT := Lib.hid hft; clear hft
              by_cases hfz : fault kids[k] = 0
              · have hz : (fault kids[k] != 0) = false := by simp [hfz]
                have HFZ := Lib.hid hfz; clear hfz
                go_wp2_with fail
                go_roundw
                case rel => exact ⟨k + 1, by omega, by go_num, by rw [HFT.out, HFZ.out], Below.over HB.out HB.out.size HB'.out⟩
                case measure => simp [intOf]; omega
              · have hz : (fault kids[k] != 0) = true := by simp [hfz]
                have hst := faultL_stop kids (k + 1) (by rw [HFT.out]; exact hfz)
                have HST := Lib.hid hst; clear hst hfz
                go_wp2_with fail
                go_ret
                refine ⟨by (rw [HST.out, HFT.out]; rfl), Below.over BA.out BA.out.size HB'.out⟩
            · have hks : kids.take k = kids := List.take_of_length_le (by omega)
              have HKS := Lib.hid hks; clear hks
              go_wp2_with fail
              go_ret
              refine ⟨?_, BA.out⟩
              have := HF.out
              rw [HKS.out] at this
              rw [this]; rfl
    · have hf : fault (.mk op var kids) = 2 := by rw [fault_of_own] <;> simp [own, hop, hw]
      rw [hf]; clear hf hop IH H HK hl
      generalize kids.length = n at *
      rcases h7 with rfl | rfl | rfl | rfl | rfl | rfl | rfl
      all_goals
        simp [want] at hw
      all_goals
        first
        | have hb : ((n : Int) != 0) = true := by (rw [bne_iff_ne]; omega)
        | skip
      all_goals
        first
        | have hb1 : ((n : Int) != 1) = true := by (rw [bne_iff_ne]; omega)
        | skip
      all_goals
        first
        | have hb2 : ((n : Int) != 2) = true := by (rw [bne_iff_ne]; omega)
        | skip
      all_goals
        first
        | have hb3 : ((n : Int) != 3) = true := by (rw [bne_iff_ne]; omega)
        | skip
      all_goals
        go_enter Try.func45, Try.ntmps45
        go_wp2_with fail
        go_ret
        exact ⟨rfl, (Below.refl _ _).alloc (Nat.le_refl _) _⟩

end Go.Proofs.Ythhogbligfmpdaa
