/- Formulas in memory; the functions that count and check them. -/
import Derived.Test.YthhogbligfmpdaaWa
set_option linter.unusedVariables false
set_option linter.unusedSimpArgs false
namespace Go.Proofs.Ythhogbligfmpdaa
open Go.RowKit Bd

/-- The formula's kids lie at this slice. -/
inductive FmAt (w : World) : Fm → Option Addr → Prop where
  | mk (op var : Int) (kids : List Fm) (a : Option Addr) (A : Nat → Option Addr) (Cp : Nat → Nat) (hl : kids.length ≤ 9223372036854775807)
      (h : kids ≠ [] → ∃ b o, a = some ⟨b, o, none⟩ ∧ ∀ i (hi : i < kids.length), w.cell? ⟨b, o + i * 3, none⟩ = some (.int .i64 kids[i].op) ∧ w.cell? ⟨b, o + i * 3 + 1, none⟩ = some (.int .i64 kids[i].var) ∧ w.cell? ⟨b, o + i * 3 + 2, none⟩ = some (.slice (A i) kids[i].kids.length (Cp i)))
      (hk : ∀ i (hi : i < kids.length), FmAt w kids[i] (A i)) : FmAt w (.mk op var kids) a

def fmV (F : Fm) (a : Option Addr) (cap : Nat) : Value := .agg #[.int .i64 F.op, .int .i64 F.var, .slice a F.kids.length cap]

theorem lt_of_cell {w : World} {a : Addr} {v : Value} (h : w.cell? a = some v) : a.block < w.heap.size := World.block_lt_of_cell? w _ h

theorem kid_cells {w0 w : World} (hB : Below w0.heap.size w0 w) {b p q r : Nat} {x y z : Value} (d : w0.cell? ⟨b, p, none⟩ = some x ∧ w0.cell? ⟨b, q, none⟩ = some y ∧ w0.cell? ⟨b, r, none⟩ = some z) :
    w.cell? ⟨b, p, none⟩ = some x ∧ w.cell? ⟨b, q, none⟩ = some y ∧ w.cell? ⟨b, r, none⟩ = some z := by
  obtain ⟨d0, d1, d2⟩ := d
  exact ⟨(hB.cell (p := ⟨b, p, none⟩) (lt_of_cell d0)).trans d0, (hB.cell (p := ⟨b, q, none⟩) (lt_of_cell d1)).trans d1, (hB.cell (p := ⟨b, r, none⟩) (lt_of_cell d2)).trans d2⟩

theorem Below.over {B : Nat} {w0 w w' : World} (h : Below B w0 w) (hB : B ≤ w.heap.size) (k : Below w.heap.size w w') : Below B w0 w' := h.trans (k.mono hB)

def mn (x : Nat) (most : Int) : Int := min (x : Int) (most + 1)
theorem mn_step {x y : Nat} {most : Int} (h : mn x most ≤ most) : mn x most + mn y (most - mn x most) = mn (x + y) most := by unfold mn at *; omega
theorem mn_stop {x y : Nat} {most : Int} (h : ¬ mn x most ≤ most) (hxy : x ≤ y) : mn x most = mn y most := by unfold mn at *; omega

set_option maxRecDepth 100000 in
set_option maxHeartbeats 400000 in
theorem nodes_any {w0 : World} {F : Fm} {a : Option Addr} (h : FmAt w0 F a) : ∀ (cap : Nat) (w : World) (most : Int), Below w0.heap.size w0 w → 0 ≤ most → most ≤ 300 →
    Calls Try.prog 46 #[.agg #[.int .i64 F.op, .int .i64 F.var, .slice a F.kids.length cap], .int .i64 most] w fun e w' => e = .returned (.int .i64 (mn (cnt F) most)) ∧ Below w.heap.size w w' := by
  induction h with
  | mk op var kids a A Cp hl h hk ih =>
  intro cap w most hB h0 h1
  have IH := Lib.hid ih; clear ih
  have H := Lib.hid h; clear h
  have HK := Lib.hid hk; clear hk
  simp only [Fm.op, Fm.var, Fm.kids]
  go_enter Try.func46, Try.ntmps46
  go_wp2_with fail
  go_loopw [5, 11] (fun n i wr => ∃ k : Nat, k ≤ kids.length ∧ i = .int .i64 k ∧ n = .int .i64 (mn (1 + cnt.cntL (kids.take k)) most) ∧ Below w.heap.size w wr ∧ w.heap.size < wr.heap.size)
     (fun _ i _ => kids.length - (intOf i).toNat)
  case atStart => exact ⟨0, Nat.zero_le _, rfl, by simp [cnt.cntL, mn]; omega, (Below.refl _ _).alloc (Nat.le_refl _) _, by simp⟩
  case round =>
    obtain ⟨k, hkl, rfl, rfl, hb, hlt⟩ := hrel
    have hmn : mn (1 + cnt.cntL (kids.take k)) most ≤ most + 1 := by unfold mn; omega
    have hmn0 : 0 ≤ mn (1 + cnt.cntL (kids.take k)) most := by unfold mn; omega
    by_cases hkk : k < kids.length
    · obtain ⟨b, o, rfl, hc⟩ := H.out (by intro e; rw [e] at hkk; simp at hkk)
      obtain ⟨c0, c1, c2⟩ := kid_cells (Below.over hB hB.size hb) (hc k hkk)
      have HC := Lib.hid hc; clear hc
      have HB := Lib.hid hb; clear hb
      by_cases hbr : mn (1 + cnt.cntL (kids.take k)) most ≤ most
      · go_wp2_with fail
        refine (IH.out k hkk (Cp k) _ _ ((Below.over hB hB.size HB.out).alloc (Nat.le_trans hB.size HB.out.size) _) (by omega) (by omega)).mono ?_
        rintro e w' ⟨rfl, hb'⟩
        have HB' := Lib.hid hb'; clear hb'
        have hms := mn_step (y := cnt kids[k]) hbr
        have hmk : mn (1 + cnt.cntL (kids.take k)) most + mn (cnt kids[k]) (most - mn (1 + cnt.cntL (kids.take k)) most) ≤ most + 1 := by rw [hms]; unfold mn; omega
        have hmk0 : 0 ≤ mn (1 + cnt.cntL (kids.take k)) most + mn (cnt kids[k]) (most - mn (1 + cnt.cntL (kids.take k)) most) := by rw [hms]; unfold mn; omega
        have HMS := Lib.hid hms; clear hms
        go_wp2_with fail
        go_roundw
        case rel => exact ⟨k + 1, by omega, by go_num, by rw [HMS.out, cntL_take kids k hkk, Nat.add_assoc], Below.over HB.out HB.out.size (((Below.refl _ _).alloc (Nat.le_refl _) _).trans (HB'.out.mono (by simp))), by have := HB'.out.size; simp at this; omega⟩
        case measure => simp [intOf]; omega
      · have hbr2 := mn_stop (y := 1 + cnt.cntL kids) hbr (by have := cntL_take_le kids k; omega)
        have HBR := Lib.hid hbr2; clear hbr2
        go_wp2_with fail
        go_ret
        refine ⟨?_, HB.out.trans ((Below.refl _ _).alloc HB.out.size _)⟩
        rw [HBR.out]; rfl
    · have hks : kids.take k = kids := List.take_of_length_le (by omega)
      have HKS := Lib.hid hks; clear hks
      go_wp2_with fail
      go_ret
      refine ⟨?_, hb⟩
      rw [HKS.out]; rfl

end Go.Proofs.Ythhogbligfmpdaa

/- The functions that look for a formula's first fault. -/
namespace Go.Proofs.Ythhogbligfmpdaa
open Go.RowKit Bd

theorem fault_of_own {op var : Int} {l : List Fm} (h : own op var l.length ≠ 0) : fault (.mk op var l) = own op var l.length := by simp [fault, h]
theorem fault_of_kids {op var : Int} {l : List Fm} (h : own op var l.length = 0) : fault (.mk op var l) = fault.faultL l := by simp [fault, h]

set_option maxRecDepth 100000 in
set_option maxHeartbeats 1000000 in
theorem boolFault_any {w0 : World} {F : Fm} {a : Option Addr} (h : FmAt w0 F a) : ∀ (cap : Nat) (w : World), Below w0.heap.size w0 w →
    Calls Try.prog 47 #[.agg #[.int .i64 F.op, .int .i64 F.var, .slice a F.kids.length cap]] w fun e w' => e = .returned (.int .i64 (fault F)) ∧ Below w.heap.size w w' := by
  induction h with
  | mk op var kids a A Cp hl h hk ih =>
  intro cap w hB
  have IH := Lib.hid ih; clear ih
  have H := Lib.hid h; clear h
  have HK := Lib.hid hk; clear hk
  simp only [Fm.op, Fm.var, Fm.kids]
  by_cases hop : op < 1 ∨ 7 < op
  · have hf : fault (.mk op var kids) = 7 := by rw [fault_of_own] <;> simp [own, hop]
    rw [hf]; clear hf
    rcases hop with hop | hop
    all_goals
      go_enter Try.func47, Try.ntmps47
      go_wp2_with fail
      go_ret
      exact ⟨rfl, (Below.refl _ _).alloc (Nat.le_refl _) _⟩
  · have h7 : op = 1 ∨ op = 2 ∨ op = 3 ∨ op = 4 ∨ op = 5 ∨ op = 6 ∨ op = 7 := by omega
    by_cases hw : kids.length = want op kids.length
    · by_cases hv : var < 0 ∨ mostVar op < var
      · have hf : fault (.mk op var kids) = 1 := by rw [fault_of_own] <;> simp [own, hop, ← hw, hv]
        rw [hf]; clear hf hop
        rcases h7 with rfl | rfl | rfl | rfl | rfl | rfl | rfl
        all_goals
          simp [want, mostVar] at hw hv
          rcases hv with hv | hv
          all_goals
            go_enter Try.func47, Try.ntmps47
            go_wp2_with fail
            go_ret
            exact ⟨rfl, (Below.refl _ _).alloc (Nat.le_refl _) _⟩
      · have hf : fault (.mk op var kids) = fault.faultL kids := fault_of_kids (by simp [own, hop, ← hw, hv])
        rw [hf]; clear hf hop
        have hv0 : 0 ≤ var := by omega
        have hv1 : var ≤ mostVar op := by omega
        clear hv
        rcases h7 with rfl | rfl | rfl | rfl | rfl | rfl | rfl
        all_goals
          simp [mostVar] at hv1
          have HW := Lib.hid hw; clear hw
        all_goals
          first
          | have hb : ((kids.length : Int) != 0) = false := by (have := HW.out; rw [bne_eq_false_iff_eq]; simp only [want] at this; simp at this; simp [this])
          | skip
        all_goals
          first
          | have hb1 : ((kids.length : Int) != 1) = false := by (have := HW.out; rw [bne_eq_false_iff_eq]; simp only [want] at this; simp at this; simp [this])
          | skip
        all_goals
          first
          | have hb2 : ((kids.length : Int) != 2) = false := by (have := HW.out; rw [bne_eq_false_iff_eq]; simp only [want] at this; simp at this; simp [this])
          | skip
        all_goals
          first
          | have hb3 : ((kids.length : Int) != 3) = false := by (have := HW.out; rw [bne_eq_false_iff_eq]; simp only [want] at this; simp at this; simp [this])
          | skip
        all_goals
          go_enter Try.func47, Try.ntmps47
          go_wp2_with fail
          go_loopw [46] (fun i wr => ∃ k : Nat, k ≤ kids.length ∧ i = .int .i64 k ∧ fault.faultL (kids.take k) = 0 ∧ Below w.heap.size w wr ∧ w.heap.size < wr.heap.size) (fun i _ => kids.length - (intOf i).toNat)
          case atStart => exact ⟨0, Nat.zero_le _, rfl, by simp [fault.faultL], (Below.refl _ _).alloc (Nat.le_refl _) _, by simp⟩
          case round =>
            obtain ⟨k, hkl, rfl, hfl, hb, hlt⟩ := hrel
            have HF := Lib.hid hfl; clear hfl
            have HB := Lib.hid hb; clear hb
            by_cases hkk : k < kids.length
            · obtain ⟨b, o, rfl, hc⟩ := H.out (by intro e; rw [e] at hkk; simp at hkk)
              obtain ⟨c0, c1, c2⟩ := kid_cells (Below.over hB hB.size HB.out) (hc k hkk)
              have HC := Lib.hid hc; clear hc
              go_wp2_with fail
              refine (IH.out k hkk (Cp k) _ ((Below.over hB hB.size HB.out).alloc (Nat.le_trans hB.size HB.out.size) _)).mono ?_
              rintro e w' ⟨rfl, hb'⟩
              have HB' := Lib.hid hb'; clear hb'
              have hft := faultL_take kids k hkk HF.out
              have HFT := Lib.hid hft; clear hft
              by_cases hfz : fault kids[k] = 0
              · have hz : (fault kids[k] != 0) = false := by simp [hfz]
                have HFZ := Lib.hid hfz; clear hfz
                go_wp2_with fail
                go_roundw
                case rel => exact ⟨k + 1, by omega, by go_num, by rw [HFT.out, HFZ.out], Below.over HB.out HB.out.size (((Below.refl _ _).alloc (Nat.le_refl _) _).trans (HB'.out.mono (by simp))), by have := HB'.out.size; simp at this; omega⟩
                case measure => simp [intOf]; omega
              · have hz : (fault kids[k] != 0) = true := by simp [hfz]
                have hst := faultL_stop kids (k + 1) (by rw [HFT.out]; exact hfz)
                have HST := Lib.hid hst; clear hst hfz
                go_wp2_with fail
                go_ret
                refine ⟨by (rw [HST.out, HFT.out]; rfl), HB.out.trans ((((Below.refl _ _).alloc (Nat.le_refl _) _).trans (HB'.out.mono (by simp))).mono HB.out.size)⟩
            · have hks : kids.take k = kids := List.take_of_length_le (by omega)
              have HKS := Lib.hid hks; clear hks
              go_wp2_with fail
              go_ret
              refine ⟨?_, HB.out⟩
              have := HF.out
              rw [HKS.out] at this
              rw [this]; rfl
    · have hf : fault (.mk op var kids) = 2 := by rw [fault_of_own] <;> simp [own, hop, hw]
      rw [hf]; clear hf hop IH H HK hl
      generalize kids.length = n at *
      rcases h7 with rfl | rfl | rfl | rfl | rfl | rfl | rfl
      all_goals
        simp [want] at hw
      all_goals
        first
        | have hb : ((n : Int) != 0) = true := by (rw [bne_iff_ne]; omega)
        | skip
      all_goals
        first
        | have hb1 : ((n : Int) != 1) = true := by (rw [bne_iff_ne]; omega)
        | skip
      all_goals
        first
        | have hb2 : ((n : Int) != 2) = true := by (rw [bne_iff_ne]; omega)
        | skip
      all_goals
        first
        | have hb3 : ((n : Int) != 3) = true := by (rw [bne_iff_ne]; omega)
        | skip
      all_goals
        go_enter Try.func47, Try.ntmps47
        go_wp2_with fail
        go_ret
        exact ⟨rfl, (Below.refl _ _).alloc (Nat.le_refl _) _⟩

end Go.Proofs.Ythhogbligfmpdaa

/- The reference's function that looks for a formula's first fault. -/
namespace Go.Proofs.Ythhogbligfmpdaa
open Go.RowKit Bd

set_option maxRecDepth 100000 in
set_option maxHeartbeats 1000000 in
theorem formulaFault_any {w0 : World} {F : Fm} {a : Option Addr} (h : FmAt w0 F a) : ∀ (cap : Nat) (w : World), Below w0.heap.size w0 w →
    Calls Try.prog 45 #[.agg #[.int .i64 F.op, .int .i64 F.var, .slice a F.kids.length cap]] w fun e w' => e = .returned (.int .i64 (fault F)) ∧ Below w.heap.size w w' := by
  induction h with
  | mk op var kids a A Cp hl h hk ih =>
  intro cap w hB
  have IH := Lib.hid ih; clear ih
  have H := Lib.hid h; clear h
  have HK := Lib.hid hk; clear hk
  simp only [Fm.op, Fm.var, Fm.kids]
  by_cases hop : op < 1 ∨ 7 < op
  · have hf : fault (.mk op var kids) = 7 := by rw [fault_of_own] <;> simp [own, hop]
    rw [hf]; clear hf
    rcases hop with hop | hop
    all_goals
      go_enter Try.func45, Try.ntmps45
      go_wp2_with fail
      go_ret
      exact ⟨rfl, (Below.refl _ _).alloc (Nat.le_refl _) _⟩
  · have h7 : op = 1 ∨ op = 2 ∨ op = 3 ∨ op = 4 ∨ op = 5 ∨ op = 6 ∨ op = 7 := by omega
    by_cases hw : kids.length = want op kids.length
    · by_cases hv : var < 0 ∨ mostVar op < var
      · have hf : fault (.mk op var kids) = 1 := by rw [fault_of_own] <;> simp [own, hop, ← hw, hv]
        rw [hf]; clear hf hop
        rcases h7 with rfl | rfl | rfl | rfl | rfl | rfl | rfl
        all_goals
          simp [want, mostVar] at hw hv
          rcases hv with hv | hv
          all_goals
            go_enter Try.func45, Try.ntmps45
            go_wp2_with fail
            go_ret
            exact ⟨rfl, (Below.refl _ _).alloc (Nat.le_refl _) _⟩
      · have hf : fault (.mk op var kids) = fault.faultL kids := fault_of_kids (by simp [own, hop, ← hw, hv])
        rw [hf]; clear hf hop
        have hv0 : 0 ≤ var := by omega
        have hv1 : var ≤ mostVar op := by omega
        clear hv
        rcases h7 with rfl | rfl | rfl | rfl | rfl | rfl | rfl
        · simp [mostVar] at hv1
          have HW := Lib.hid hw; clear hw
          have hb : ((kids.length : Int) != 0) = false := by (have := HW.out; rw [bne_eq_false_iff_eq]; simp only [want] at this; simp at this; simp [this])
          go_enter Try.func45, Try.ntmps45
          go_wp2_with fail
          have B1 : Hid (Below w.heap.size w (w.alloc (.cells #[.int .i64 1, .int .i64 var, .slice a kids.length cap] 24))) := (Below.refl _ _).alloc (Nat.le_refl _) _
          have S1 : Hid ((w.alloc (.cells #[.int .i64 1, .int .i64 var, .slice a kids.length cap] 24)).heap.size = w.heap.size + 1) := by show _ = _; simp
          have x2 : (w.alloc (.cells #[.int .i64 1, .int .i64 var, .slice a kids.length cap] 24)).cell? ⟨w.heap.size, 2, none⟩ = some (.slice a kids.length cap) := by simp
          generalize w.alloc (.cells #[.int .i64 1, .int .i64 var, .slice a kids.length cap] 24) = w1 at *
          go_loopw [5] (fun i wr => ∃ k : Nat, k ≤ kids.length ∧ i = .int .i64 k ∧ fault.faultL (kids.take k) = 0 ∧ Below w1.heap.size w1 wr) (fun i _ => kids.length - (intOf i).toNat)
          case atStart => exact ⟨0, Nat.zero_le _, rfl, by simp [fault.faultL], Below.refl _ _⟩
          case round =>
            obtain ⟨k, hkl, rfl, hfl, hb⟩ := hrel
            have HF := Lib.hid hfl; clear hfl
            have y2 : wr.cell? ⟨w.heap.size, 2, none⟩ = some (.slice a kids.length cap) := (hb.cell (p := ⟨w.heap.size, 2, none⟩) (by rw [S1.out]; show w.heap.size < _; omega)).trans x2
            have HB := Lib.hid hb; clear hb x2
            have BA := Lib.hid (Below.over B1.out B1.out.size HB.out)
            by_cases hkk : k < kids.length
            · obtain ⟨b, o, rfl, hc⟩ := H.out (by intro e; rw [e] at hkk; simp at hkk)
              obtain ⟨c0, c1, c2⟩ := kid_cells (Below.over hB hB.size BA.out) (hc k hkk)
              have HC := Lib.hid hc; clear hc
              go_wp2_with fail
              refine (IH.out k hkk (Cp k) _ (Below.over hB hB.size BA.out)).mono ?_
              rintro e w' ⟨rfl, hb'⟩
              have HB' := Lib.hid hb'; clear hb'
              have hft := faultL_take kids k hkk HF.out
              have HFT := Lib.hid hft; clear hft
              by_cases hfz : fault kids[k] = 0
              · have hz : (fault kids[k] != 0) = false := by simp [hfz]
                have HFZ := Lib.hid hfz; clear hfz
                go_wp2_with fail
                go_roundw
                case rel => exact ⟨k + 1, by omega, by go_num, by rw [HFT.out, HFZ.out], Below.over HB.out HB.out.size HB'.out⟩
                case measure => simp [intOf]; omega
              · have hz : (fault kids[k] != 0) = true := by simp [hfz]
                have hst := faultL_stop kids (k + 1) (by rw [HFT.out]; exact hfz)
                have HST := Lib.hid hst; clear hst hfz
                go_wp2_with fail
                go_ret
                refine ⟨by (rw [HST.out, HFT.out]; rfl), Below.over BA.out BA.out.size HB'.out⟩
            · have hks : kids.take k = kids := List.take_of_length_le (by omega)
              have HKS := Lib.hid hks; clear hks
              go_wp2_with fail
              go_ret
              refine ⟨?_, BA.out⟩
              have := HF.out
              rw [HKS.out] at this
              rw [this]; rfl
        · simp [mostVar] at hv1
          have HW := Lib.hid hw; clear hw
          have hb : ((kids.length : Int) != 0) = false := by (have := HW.out; rw [bne_eq_false_iff_eq]; simp only [want] at this; simp at this; simp [this])
          go_enter Try.func45, Try.ntmps45
          go_wp2_with fail
          have B1 : Hid (Below w.heap.size w (w.alloc (.cells #[.int .i64 2, .int .i64 var, .slice a kids.length cap] 24))) := (Below.refl _ _).alloc (Nat.le_refl _) _
          have S1 : Hid ((w.alloc (.cells #[.int .i64 2, .int .i64 var, .slice a kids.length cap] 24)).heap.size = w.heap.size + 1) := by show _ = _; simp
          have x2 : (w.alloc (.cells #[.int .i64 2, .int .i64 var, .slice a kids.length cap] 24)).cell? ⟨w.heap.size, 2, none⟩ = some (.slice a kids.length cap) := by simp
          generalize w.alloc (.cells #[.int .i64 2, .int .i64 var, .slice a kids.length cap] 24) = w1 at *
          go_loopw [5] (fun i wr => ∃ k : Nat, k ≤ kids.length ∧ i = .int .i64 k ∧ fault.faultL (kids.take k) = 0 ∧ Below w1.heap.size w1 wr) (fun i _ => kids.length - (intOf i).toNat)
          case atStart => exact ⟨0, Nat.zero_le _, rfl, by simp [fault.faultL], Below.refl _ _⟩
          case round =>
            obtain ⟨k, hkl, rfl, hfl, hb⟩ := hrel
            have HF := Lib.hid hfl; clear hfl
            have y2 : wr.cell? ⟨w.heap.size, 2, none⟩ = some (.slice a kids.length cap) := (hb.cell (p := ⟨w.heap.size, 2, none⟩) (by rw [S1.out]; show w.heap.size < _; omega)).trans x2
            have HB := Lib.hid hb; clear hb x2
            have BA := Lib.hid (Below.over B1.out B1.out.size HB.out)
            by_cases hkk : k < kids.length
            · obtain ⟨b, o, rfl, hc⟩ := H.out (by intro e; rw [e] at hkk; simp at hkk)
              obtain ⟨c0, c1, c2⟩ := kid_cells (Below.over hB hB.size BA.out) (hc k hkk)
              have HC := Lib.hid hc; clear hc
              go_wp2_with fail
              refine (IH.out k hkk (Cp k) _ (Below.over hB hB.size BA.out)).mono ?_
              rintro e w' ⟨rfl, hb'⟩
              have HB' := Lib.hid hb'; clear hb'
              have hft := faultL_take kids k hkk HF.out
              have HFT := Lib.hid hft; clear hft
              by_cases hfz : fault kids[k] = 0
              · have hz : (fault kids[k] != 0) = false := by simp [hfz]
                have HFZ := Lib.hid hfz; clear hfz
                go_wp2_with fail
                go_roundw
                case rel => exact ⟨k + 1, by omega, by go_num, by rw [HFT.out, HFZ.out], Below.over HB.out HB.out.size HB'.out⟩
                case measure => simp [intOf]; omega
              · have hz : (fault kids[k] != 0) = true := by simp [hfz]
                have hst := faultL_stop kids (k + 1) (by rw [HFT.out]; exact hfz)
                have HST := Lib.hid hst; clear hst hfz
                go_wp2_with fail
                go_ret
                refine ⟨by (rw [HST.out, HFT.out]; rfl), Below.over BA.out BA.out.size HB'.out⟩
            · have hks : kids.take k = kids := List.take_of_length_le (by omega)
              have HKS := Lib.hid hks; clear hks
              go_wp2_with fail
              go_ret
              refine ⟨?_, BA.out⟩
              have := HF.out
              rw [HKS.out] at this
              rw [this]; rfl
        · simp [mostVar] at hv1
          have HW := Lib.hid hw; clear hw
          have hb : ((kids.length : Int) != 1) = false := by (have := HW.out; rw [bne_eq_false_iff_eq]; simp only [want] at this; simp at this; simp [this])
          go_enter Try.func45, Try.ntmps45
          go_wp2_with fail
          have B1 : Hid (Below w.heap.size w (w.alloc (.cells #[.int .i64 3, .int .i64 var, .slice a kids.length cap] 24))) := (Below.refl _ _).alloc (Nat.le_refl _) _
          have S1 : Hid ((w.alloc (.cells #[.int .i64 3, .int .i64 var, .slice a kids.length cap] 24)).heap.size = w.heap.size + 1) := by show _ = _; simp
          have x2 : (w.alloc (.cells #[.int .i64 3, .int .i64 var, .slice a kids.length cap] 24)).cell? ⟨w.heap.size, 2, none⟩ = some (.slice a kids.length cap) := by simp
          generalize w.alloc (.cells #[.int .i64 3, .int .i64 var, .slice a kids.length cap] 24) = w1 at *
          go_loopw [5] (fun i wr => ∃ k : Nat, k ≤ kids.length ∧ i = .int .i64 k ∧ fault.faultL (kids.take k) = 0 ∧ Below w1.heap.size w1 wr) (fun i _ => kids.length - (intOf i).toNat)
          case atStart => exact ⟨0, Nat.zero_le _, rfl, by simp [fault.faultL], Below.refl _ _⟩
          case round =>
            obtain ⟨k, hkl, rfl, hfl, hb⟩ := hrel
            have HF := Lib.hid hfl; clear hfl
            have y2 : wr.cell? ⟨w.heap.size, 2, none⟩ = some (.slice a kids.length cap) := (hb.cell (p := ⟨w.heap.size, 2, none⟩) (by rw [S1.out]; show w.heap.size < _; omega)).trans x2
            have HB := Lib.hid hb; clear hb x2
            have BA := Lib.hid (Below.over B1.out B1.out.size HB.out)
            by_cases hkk : k < kids.length
            · obtain ⟨b, o, rfl, hc⟩ := H.out (by intro e; rw [e] at hkk; simp at hkk)
              obtain ⟨c0, c1, c2⟩ := kid_cells (Below.over hB hB.size BA.out) (hc k hkk)
              have HC := Lib.hid hc; clear hc
              go_wp2_with fail
              refine (IH.out k hkk (Cp k) _ (Below.over hB hB.size BA.out)).mono ?_
              rintro e w' ⟨rfl, hb'⟩
              have HB' := Lib.hid hb'; clear hb'
              have hft := faultL_take kids k hkk HF.out
              have HFT := Lib.hid hft; clear hft
              by_cases hfz : fault kids[k] = 0
              · have hz : (fault kids[k] != 0) = false := by simp [hfz]
                have HFZ := Lib.hid hfz; clear hfz
                go_wp2_with fail
                go_roundw
                case rel => exact ⟨k + 1, by omega, by go_num, by rw [HFT.out, HFZ.out], Below.over HB.out HB.out.size HB'.out⟩
                case measure => simp [intOf]; omega
              · have hz : (fault kids[k] != 0) = true := by simp [hfz]
                have hst := faultL_stop kids (k + 1) (by rw [HFT.out]; exact hfz)
                have HST := Lib.hid hst; clear hst hfz
                go_wp2_with fail
                go_ret
                refine ⟨by (rw [HST.out, HFT.out]; rfl), Below.over BA.out BA.out.size HB'.out⟩
            · have hks : kids.take k = kids := List.take_of_length_le (by omega)
              have HKS := Lib.hid hks; clear hks
              go_wp2_with fail
              go_ret
              refine ⟨?_, BA.out⟩
              have := HF.out
              rw [HKS.out] at this
              rw [this]; rfl
        · simp [mostVar] at hv1
          have HW := Lib.hid hw; clear hw
          have hb : ((kids.length : Int) != kids.length) = false := by simp
          go_enter Try.func45, Try.ntmps45
          go_wp2_with fail
          have B1 : Hid (Below w.heap.size w (w.alloc (.cells #[.int .i64 4, .int .i64 var, .slice a kids.length cap] 24))) := (Below.refl _ _).alloc (Nat.le_refl _) _
          have S1 : Hid ((w.alloc (.cells #[.int .i64 4, .int .i64 var, .slice a kids.length cap] 24)).heap.size = w.heap.size + 1) := by show _ = _; simp
          have x2 : (w.alloc (.cells #[.int .i64 4, .int .i64 var, .slice a kids.length cap] 24)).cell? ⟨w.heap.size, 2, none⟩ = some (.slice a kids.length cap) := by simp
          generalize w.alloc (.cells #[.int .i64 4, .int .i64 var, .slice a kids.length cap] 24) = w1 at *
          go_loopw [5] (fun i wr => ∃ k : Nat, k ≤ kids.length ∧ i = .int .i64 k ∧ fault.faultL (kids.take k) = 0 ∧ Below w1.heap.size w1 wr) (fun i _ => kids.length - (intOf i).toNat)
          case atStart => exact ⟨0, Nat.zero_le _, rfl, by simp [fault.faultL], Below.refl _ _⟩
          case round =>
            obtain ⟨k, hkl, rfl, hfl, hb⟩ := hrel
            have HF := Lib.hid hfl; clear hfl
            have y2 : wr.cell? ⟨w.heap.size, 2, none⟩ = some (.slice a kids.length cap) := (hb.cell (p := ⟨w.heap.size, 2, none⟩) (by rw [S1.out]; show w.heap.size < _; omega)).trans x2
            have HB := Lib.hid hb; clear hb x2
            have BA := Lib.hid (Below.over B1.out B1.out.size HB.out)
            by_cases hkk : k < kids.length
            · obtain ⟨b, o, rfl, hc⟩ := H.out (by intro e; rw [e] at hkk; simp at hkk)
              obtain ⟨c0, c1, c2⟩ := kid_cells (Below.over hB hB.size BA.out) (hc k hkk)
              have HC := Lib.hid hc; clear hc
              go_wp2_with fail
              refine (IH.out k hkk (Cp k) _ (Below.over hB hB.size BA.out)).mono ?_
              rintro e w' ⟨rfl, hb'⟩
              have HB' := Lib.hid hb'; clear hb'
              have hft := faultL_take kids k hkk HF.out
              have HFT := Lib.hid hft; clear hft
              by_cases hfz : fault kids[k] = 0
              · have hz : (fault kids[k] != 0) = false := by simp [hfz]
                have HFZ := Lib.hid hfz; clear hfz
                go_wp2_with fail
                go_roundw
                case rel => exact ⟨k + 1, by omega, by go_num, by rw [HFT.out, HFZ.out], Below.over HB.out HB.out.size HB'.out⟩
                case measure => simp [intOf]; omega
              · have hz : (fault kids[k] != 0) = true := by simp [hfz]
                have hst := faultL_stop kids (k + 1) (by rw [HFT.out]; exact hfz)
                have HST := Lib.hid hst; clear hst hfz
                go_wp2_with fail
                go_ret
                refine ⟨by (rw [HST.out, HFT.out]; rfl), Below.over BA.out BA.out.size HB'.out⟩
            · have hks : kids.take k = kids := List.take_of_length_le (by omega)
              have HKS := Lib.hid hks; clear hks
              go_wp2_with fail
              go_ret
              refine ⟨?_, BA.out⟩
              have := HF.out
              rw [HKS.out] at this
              rw [this]; rfl
        · simp [mostVar] at hv1
          have HW := Lib.hid hw; clear hw
          have hb : ((kids.length : Int) != kids.length) = false := by simp
          go_enter Try.func45, Try.ntmps45
          go_wp2_with fail
          have B1 : Hid (Below w.heap.size w (w.alloc (.cells #[.int .i64 5, .int .i64 var, .slice a kids.length cap] 24))) := (Below.refl _ _).alloc (Nat.le_refl _) _
          have S1 : Hid ((w.alloc (.cells #[.int .i64 5, .int .i64 var, .slice a kids.length cap] 24)).heap.size = w.heap.size + 1) := by show _ = _; simp
          have x2 : (w.alloc (.cells #[.int .i64 5, .int .i64 var, .slice a kids.length cap] 24)).cell? ⟨w.heap.size, 2, none⟩ = some (.slice a kids.length cap) := by simp
          generalize w.alloc (.cells #[.int .i64 5, .int .i64 var, .slice a kids.length cap] 24) = w1 at *
          go_loopw [5] (fun i wr => ∃ k : Nat, k ≤ kids.length ∧ i = .int .i64 k ∧ fault.faultL (kids.take k) = 0 ∧ Below w1.heap.size w1 wr) (fun i _ => kids.length - (intOf i).toNat)
          case atStart => exact ⟨0, Nat.zero_le _, rfl, by simp [fault.faultL], Below.refl _ _⟩
          case round =>
            obtain ⟨k, hkl, rfl, hfl, hb⟩ := hrel
            have HF := Lib.hid hfl; clear hfl
            have y2 : wr.cell? ⟨w.heap.size, 2, none⟩ = some (.slice a kids.length cap) := (hb.cell (p := ⟨w.heap.size, 2, none⟩) (by rw [S1.out]; show w.heap.size < _; omega)).trans x2
            have HB := Lib.hid hb; clear hb x2
            have BA := Lib.hid (Below.over B1.out B1.out.size HB.out)
            by_cases hkk : k < kids.length
            · obtain ⟨b, o, rfl, hc⟩ := H.out (by intro e; rw [e] at hkk; simp at hkk)
              obtain ⟨c0, c1, c2⟩ := kid_cells (Below.over hB hB.size BA.out) (hc k hkk)
              have HC := Lib.hid hc; clear hc
              go_wp2_with fail
              refine (IH.out k hkk (Cp k) _ (Below.over hB hB.size BA.out)).mono ?_
              rintro e w' ⟨rfl, hb'⟩
              have HB' := Lib.hid hb'; clear hb'
              have hft := faultL_take kids k hkk HF.out
              have HFT := Lib.hid hft; clear hft
              by_cases hfz : fault kids[k] = 0
              · have hz : (fault kids[k] != 0) = false := by simp [hfz]
                have HFZ := Lib.hid hfz; clear hfz
                go_wp2_with fail
                go_roundw
                case rel => exact ⟨k + 1, by omega, by go_num, by rw [HFT.out, HFZ.out], Below.over HB.out HB.out.size HB'.out⟩
                case measure => simp [intOf]; omega
              · have hz : (fault kids[k] != 0) = true := by simp [hfz]
                have hst := faultL_stop kids (k + 1) (by rw [HFT.out]; exact hfz)
                have HST := Lib.hid hst; clear hst hfz
                go_wp2_with fail
                go_ret
                refine ⟨by (rw [HST.out, HFT.out]; rfl), Below.over BA.out BA.out.size HB'.out⟩
            · have hks : kids.take k = kids := List.take_of_length_le (by omega)
              have HKS := Lib.hid hks; clear hks
              go_wp2_with fail
              go_ret
              refine ⟨?_, BA.out⟩
              have := HF.out
              rw [HKS.out] at this
              rw [this]; rfl
        · simp [mostVar] at hv1
          have HW := Lib.hid hw; clear hw
          have hb : ((kids.length : Int) != 2) = false := by (have := HW.out; rw [bne_eq_false_iff_eq]; simp only [want] at this; simp at this; simp [this])
          go_enter Try.func45, Try.ntmps45
          go_wp2_with fail
          have B1 : Hid (Below w.heap.size w (w.alloc (.cells #[.int .i64 6, .int .i64 var, .slice a kids.length cap] 24))) := (Below.refl _ _).alloc (Nat.le_refl _) _
          have S1 : Hid ((w.alloc (.cells #[.int .i64 6, .int .i64 var, .slice a kids.length cap] 24)).heap.size = w.heap.size + 1) := by show _ = _; simp
          have x2 : (w.alloc (.cells #[.int .i64 6, .int .i64 var, .slice a kids.length cap] 24)).cell? ⟨w.heap.size, 2, none⟩ = some (.slice a kids.length cap) := by simp
          generalize w.alloc (.cells #[.int .i64 6, .int .i64 var, .slice a kids.length cap] 24) = w1 at *
          go_loopw [5] (fun i wr => ∃ k : Nat, k ≤ kids.length ∧ i = .int .i64 k ∧ fault.faultL (kids.take k) = 0 ∧ Below w1.heap.size w1 wr) (fun i _ => kids.length - (intOf i).toNat)
          case atStart => exact ⟨0, Nat.zero_le _, rfl, by simp [fault.faultL], Below.refl _ _⟩
          case round =>
            obtain ⟨k, hkl, rfl, hfl, hb⟩ := hrel
            have HF := Lib.hid hfl; clear hfl
            have y2 : wr.cell? ⟨w.heap.size, 2, none⟩ = some (.slice a kids.length cap) := (hb.cell (p := ⟨w.heap.size, 2, none⟩) (by rw [S1.out]; show w.heap.size < _; omega)).trans x2
            have HB := Lib.hid hb; clear hb x2
            have BA := Lib.hid (Below.over B1.out B1.out.size HB.out)
            by_cases hkk : k < kids.length
            · obtain ⟨b, o, rfl, hc⟩ := H.out (by intro e; rw [e] at hkk; simp at hkk)
              obtain ⟨c0, c1, c2⟩ := kid_cells (Below.over hB hB.size BA.out) (hc k hkk)
              have HC := Lib.hid hc; clear hc
              go_wp2_with fail
              refine (IH.out k hkk (Cp k) _ (Below.over hB hB.size BA.out)).mono ?_
              rintro e w' ⟨rfl, hb'⟩
              have HB' := Lib.hid hb'; clear hb'
              have hft := faultL_take kids k hkk HF.out
              have HFT := Lib.hid hft; clear hft
              by_cases hfz : fault kids[k] = 0
              · have hz : (fault kids[k] != 0) = false := by simp [hfz]
                have HFZ := Lib.hid hfz; clear hfz
                go_wp2_with fail
                go_roundw
                case rel => exact ⟨k + 1, by omega, by go_num, by rw [HFT.out, HFZ.out], Below.over HB.out HB.out.size HB'.out⟩
                case measure => simp [intOf]; omega
              · have hz : (fault kids[k] != 0) = true := by simp [hfz]
                have hst := faultL_stop kids (k + 1) (by rw [HFT.out]; exact hfz)
                have HST := Lib.hid hst; clear hst hfz
                go_wp2_with fail
                go_ret
                refine ⟨by (rw [HST.out, HFT.out]; rfl), Below.over BA.out BA.out.size HB'.out⟩
            · have hks : kids.take k = kids := List.take_of_length_le (by omega)
              have HKS := Lib.hid hks; clear hks
              go_wp2_with fail
              go_ret
              refine ⟨?_, BA.out⟩
              have := HF.out
              rw [HKS.out] at this
              rw [this]; rfl
        · simp [mostVar] at hv1
          have HW := Lib.hid hw; clear hw
          have hb : ((kids.length : Int) != 3) = false := by (have := HW.out; rw [bne_eq_false_iff_eq]; simp only [want] at this; simp at this; simp [this])
          go_enter Try.func45, Try.ntmps45
          go_wp2_with fail
          have B1 : Hid (Below w.heap.size w (w.alloc (.cells #[.int .i64 7, .int .i64 var, .slice a kids.length cap] 24))) := (Below.refl _ _).alloc (Nat.le_refl _) _
          have S1 : Hid ((w.alloc (.cells #[.int .i64 7, .int .i64 var, .slice a kids.length cap] 24)).heap.size = w.heap.size + 1) := by show _ = _; simp
          have x2 : (w.alloc (.cells #[.int .i64 7, .int .i64 var, .slice a kids.length cap] 24)).cell? ⟨w.heap.size, 2, none⟩ = some (.slice a kids.length cap) := by simp
          generalize w.alloc (.cells #[.int .i64 7, .int .i64 var, .slice a kids.length cap] 24) = w1 at *
          go_loopw [5] (fun i wr => ∃ k : Nat, k ≤ kids.length ∧ i = .int .i64 k ∧ fault.faultL (kids.take k) = 0 ∧ Below w1.heap.size w1 wr) (fun i _ => kids.length - (intOf i).toNat)
          case atStart => exact ⟨0, Nat.zero_le _, rfl, by simp [fault.faultL], Below.refl _ _⟩
          case round =>
            obtain ⟨k, hkl, rfl, hfl, hb⟩ := hrel
            have HF := Lib.hid hfl; clear hfl
            have y2 : wr.cell? ⟨w.heap.size, 2, none⟩ = some (.slice a kids.length cap) := (hb.cell (p := ⟨w.heap.size, 2, none⟩) (by rw [S1.out]; show w.heap.size < _; omega)).trans x2
            have HB := Lib.hid hb; clear hb x2
            have BA := Lib.hid (Below.over B1.out B1.out.size HB.out)
            by_cases hkk : k < kids.length
            · obtain ⟨b, o, rfl, hc⟩ := H.out (by intro e; rw [e] at hkk; simp at hkk)
              obtain ⟨c0, c1, c2⟩ := kid_cells (Below.over hB hB.size BA.out) (hc k hkk)
              have HC := Lib.hid hc; clear hc
              go_wp2_with fail
              refine (IH.out k hkk (Cp k) _ (Below.over hB hB.size BA.out)).mono ?_
              rintro e w' ⟨rfl, hb'⟩
              have HB' := Lib.hid hb'; clear hb'
              have hft := faultL_take kids k hkk HF.out
              have HFT := Lib.hid hft; clear hft
              by_cases hfz : fault kids[k] = 0
              · have hz : (fault kids[k] != 0) = false := by simp [hfz]
                have HFZ := Lib.hid hfz; clear hfz
                go_wp2_with fail
                go_roundw
                case rel => exact ⟨k + 1, by omega, by go_num, by rw [HFT.out, HFZ.out], Below.over HB.out HB.out.size HB'.out⟩
                case measure => simp [intOf]; omega
              · have hz : (fault kids[k] != 0) = true := by simp [hfz]
                have hst := faultL_stop kids (k + 1) (by rw [HFT.out]; exact hfz)
                have HST := Lib.hid hst; clear hst hfz
                go_wp2_with fail
                go_ret
                refine ⟨by (rw [HST.out, HFT.out]; rfl), Below.over BA.out BA.out.size HB'.out⟩
            · have hks : kids.take k = kids := List.take_of_length_le (by omega)
              have HKS := Lib.hid hks; clear hks
              go_wp2_with fail
              go_ret
              refine ⟨?_, BA.out⟩
              have := HF.out
              rw [HKS.out] at this
              rw [this]; rfl
    · have hf : fault (.mk op var kids) = 2 := by rw [fault_of_own] <;> simp [own, hop, hw]
      rw [hf]; clear hf hop IH H HK hl
      generalize kids.length = n at *
      rcases h7 with rfl | rfl | rfl | rfl | rfl | rfl | rfl
      all_goals
        simp [want] at hw
      all_goals
        first
        | have hb : ((n : Int) != 0) = true := by (rw [bne_iff_ne]; omega)
        | skip
      all_goals
        first
        | have hb1 : ((n : Int) != 1) = true := by (rw [bne_iff_ne]; omega)
        | skip
      all_goals
        first
        | have hb2 : ((n : Int) != 2) = true := by (rw [bne_iff_ne]; omega)
        | skip
      all_goals
        first
        | have hb3 : ((n : Int) != 3) = true := by (rw [bne_iff_ne]; omega)
        | skip
      all_goals
        go_enter Try.func45, Try.ntmps45
        go_wp2_with fail
        go_ret
        exact ⟨rfl, (Below.refl _ _).alloc (Nat.le_refl _) _⟩

end Go.Proofs.Ythhogbligfmpdaa

/- The reference's count of a formula's nodes; CheckBool and BoolFault. -/
namespace Go.Proofs.Ythhogbligfmpdaa
open Go.RowKit Bd

theorem cnt_kid_le (l : List Fm) (k : Nat) (h : k < l.length) : cnt l[k] ≤ cnt.cntL l := by
  have a := cntL_take l k h
  have b := cntL_take_le l (k + 1)
  omega

set_option maxRecDepth 100000 in
set_option maxHeartbeats 400000 in
theorem rnodes_any {w0 : World} {F : Fm} {a : Option Addr} (h : FmAt w0 F a) : ∀ (cap : Nat) (w : World), Below w0.heap.size w0 w → cnt F ≤ 1000000000000 →
    Calls Try.prog 44 #[.agg #[.int .i64 F.op, .int .i64 F.var, .slice a F.kids.length cap]] w fun e w' => e = .returned (.int .i64 (cnt F)) ∧ Below w.heap.size w w' := by
  induction h with
  | mk op var kids a A Cp hl h hk ih =>
  intro cap w hB hcnt
  have IH := Lib.hid ih; clear ih
  have H := Lib.hid h; clear h
  have HK := Lib.hid hk; clear hk
  simp only [Fm.op, Fm.var, Fm.kids]
  have hcl : cnt.cntL kids ≤ 1000000000000 := by simp only [cnt] at hcnt; omega
  go_enter Try.func44, Try.ntmps44
  go_wp2_with fail
  have B1 : Hid (Below w.heap.size w (w.alloc (.cells #[.int .i64 op, .int .i64 var, .slice a kids.length cap] 24))) := (Below.refl _ _).alloc (Nat.le_refl _) _
  have S1 : Hid ((w.alloc (.cells #[.int .i64 op, .int .i64 var, .slice a kids.length cap] 24)).heap.size = w.heap.size + 1) := by show _ = _; simp
  have x2 : (w.alloc (.cells #[.int .i64 op, .int .i64 var, .slice a kids.length cap] 24)).cell? ⟨w.heap.size, 2, none⟩ = some (.slice a kids.length cap) := by simp
  generalize w.alloc (.cells #[.int .i64 op, .int .i64 var, .slice a kids.length cap] 24) = w1 at *
  go_loopw [3, 4] (fun n i wr => ∃ k : Nat, k ≤ kids.length ∧ i = .int .i64 k ∧ n = .int .i64 ((1 + cnt.cntL (kids.take k) : Nat) : Int) ∧ Below w1.heap.size w1 wr) (fun _ i _ => kids.length - (intOf i).toNat)
  case atStart => exact ⟨0, Nat.zero_le _, rfl, by simp [cnt.cntL], Below.refl _ _⟩
  case round =>
    obtain ⟨k, hkl, rfl, rfl, hb⟩ := hrel
    have y2 : wr.cell? ⟨w.heap.size, 2, none⟩ = some (.slice a kids.length cap) := (hb.cell (p := ⟨w.heap.size, 2, none⟩) (by rw [S1.out]; show w.heap.size < _; omega)).trans x2
    have HB := Lib.hid hb; clear hb x2
    have BA := Lib.hid (Below.over B1.out B1.out.size HB.out)
    have hle := cntL_take_le kids k
    by_cases hkk : k < kids.length
    · obtain ⟨b, o, rfl, hc⟩ := H.out (by intro e; rw [e] at hkk; simp at hkk)
      obtain ⟨c0, c1, c2⟩ := kid_cells (Below.over hB hB.size BA.out) (hc k hkk)
      have HC := Lib.hid hc; clear hc
      have hst := Lib.hid (cntL_take kids k hkk)
      have hle2 := cntL_take_le kids (k + 1)
      have hck := cnt_kid_le kids k hkk
      have hsum : (1 + cnt.cntL (kids.take k)) + cnt kids[k] ≤ 1000000000001 := by rw [hst.out] at hle2; omega
      go_wp2_with fail
      refine (IH.out k hkk (Cp k) _ (Below.over hB hB.size BA.out) (by omega)).mono ?_
      rintro e w' ⟨rfl, hb'⟩
      have HB' := Lib.hid hb'; clear hb'
      go_wp2_with fail
      go_roundw
      case rel => exact ⟨k + 1, by omega, by go_num, by rw [hst.out]; congr 1; omega, Below.over HB.out HB.out.size HB'.out⟩
      case measure => simp [intOf]; omega
    · have hks : kids.take k = kids := List.take_of_length_le (by omega)
      have HKS := Lib.hid hks; clear hks
      go_wp2_with fail
      go_ret
      refine ⟨?_, BA.out⟩
      rw [HKS.out]; rfl

/-- The error of a formula. -/
def boolErr (F : Fm) : Int := if 300 < cnt F then 3 else fault F

set_option maxRecDepth 100000 in
set_option maxHeartbeats 400000 in
theorem checkBool_any {w0 : World} {F : Fm} {a : Option Addr} (h : FmAt w0 F a) (cap : Nat) (w : World) (hB : Below w0.heap.size w0 w) :
    Calls Try.prog 15 #[.agg #[.int .i64 F.op, .int .i64 F.var, .slice a F.kids.length cap]] w fun e w' => e = .returned (.int .i64 (boolErr F)) ∧ Below w.heap.size w w' := by
  have C1 := Lib.hid (nodes_any h)
  have C2 := Lib.hid (boolFault_any h)
  clear h
  have B1 : Hid (Below w.heap.size w (w.alloc (.cells #[.int .i64 F.op, .int .i64 F.var, .slice a F.kids.length cap] 24))) := (Below.refl _ _).alloc (Nat.le_refl _) _
  have S1 : Hid ((w.alloc (.cells #[.int .i64 F.op, .int .i64 F.var, .slice a F.kids.length cap] 24)).heap.size = w.heap.size + 1) := by show _ = _; simp
  have x : (w.alloc (.cells #[.int .i64 F.op, .int .i64 F.var, .slice a F.kids.length cap] 24)).cell? ⟨w.heap.size, 0, none⟩ = some (.int .i64 F.op) ∧ (w.alloc (.cells #[.int .i64 F.op, .int .i64 F.var, .slice a F.kids.length cap] 24)).cell? ⟨w.heap.size, 1, none⟩ = some (.int .i64 F.var) ∧ (w.alloc (.cells #[.int .i64 F.op, .int .i64 F.var, .slice a F.kids.length cap] 24)).cell? ⟨w.heap.size, 2, none⟩ = some (.slice a F.kids.length cap) := by simp
  have X := Lib.hid x; clear x
  have hm : mn (cnt F) 300 ≤ 301 := by unfold mn; omega
  by_cases hc : 300 < cnt F
  · have hm2 : 300 < mn (cnt F) 300 := by unfold mn; omega
    go_enter Try.func15, Try.ntmps15
    go_wp2_with fail
    generalize w.alloc (.cells #[.int .i64 F.op, .int .i64 F.var, .slice a F.kids.length cap] 24) = w1 at *
    refine (C1.out cap _ 300 (Below.over hB hB.size B1.out) (by omega) (by omega)).mono ?_
    rintro e w' ⟨rfl, hb'⟩
    have HB' := Lib.hid hb'; clear hb'
    go_wp2_with fail
    go_ret
    exact ⟨by simp [boolErr, hc], Below.over B1.out B1.out.size HB'.out⟩
  · have hm2 : mn (cnt F) 300 ≤ 300 := by unfold mn; omega
    go_enter Try.func15, Try.ntmps15
    go_wp2_with fail
    generalize w.alloc (.cells #[.int .i64 F.op, .int .i64 F.var, .slice a F.kids.length cap] 24) = w1 at *
    refine (C1.out cap _ 300 (Below.over hB hB.size B1.out) (by omega) (by omega)).mono ?_
    rintro e w' ⟨rfl, hb'⟩
    obtain ⟨c0, c1, c2⟩ := X.out
    have y0 : w'.cell? ⟨w.heap.size, 0, none⟩ = some (.int .i64 F.op) := (hb'.cell (p := ⟨w.heap.size, 0, none⟩) (lt_of_cell c0)).trans c0
    have y1 : w'.cell? ⟨w.heap.size, 1, none⟩ = some (.int .i64 F.var) := (hb'.cell (p := ⟨w.heap.size, 1, none⟩) (lt_of_cell c1)).trans c1
    have y2 : w'.cell? ⟨w.heap.size, 2, none⟩ = some (.slice a F.kids.length cap) := (hb'.cell (p := ⟨w.heap.size, 2, none⟩) (lt_of_cell c2)).trans c2
    have HB' := Lib.hid hb'; clear hb' c0 c1 c2
    have BA := Lib.hid (Below.over B1.out B1.out.size HB'.out)
    go_wp2_with fail
    refine (C2.out cap _ (Below.over hB hB.size BA.out)).mono ?_
    rintro e w2 ⟨rfl, hb2⟩
    have HB2 := Lib.hid hb2; clear hb2
    go_wp2_with fail
    go_ret
    exact ⟨by simp [boolErr, hc], Below.over BA.out BA.out.size HB2.out⟩

set_option maxRecDepth 100000 in
set_option maxHeartbeats 400000 in
theorem boolFaultR_any {w0 : World} {F : Fm} {a : Option Addr} (h : FmAt w0 F a) (cap : Nat) (w : World) (hB : Below w0.heap.size w0 w) (hcnt : cnt F ≤ 1000000000000) :
    Calls Try.prog 14 #[.agg #[.int .i64 F.op, .int .i64 F.var, .slice a F.kids.length cap]] w fun e w' => e = .returned (.int .i64 (boolErr F)) ∧ Below w.heap.size w w' := by
  have C1 := Lib.hid (rnodes_any h)
  have C2 := Lib.hid (formulaFault_any h)
  clear h
  have B1 : Hid (Below w.heap.size w (w.alloc (.cells #[.int .i64 F.op, .int .i64 F.var, .slice a F.kids.length cap] 24))) := (Below.refl _ _).alloc (Nat.le_refl _) _
  have S1 : Hid ((w.alloc (.cells #[.int .i64 F.op, .int .i64 F.var, .slice a F.kids.length cap] 24)).heap.size = w.heap.size + 1) := by show _ = _; simp
  have x : (w.alloc (.cells #[.int .i64 F.op, .int .i64 F.var, .slice a F.kids.length cap] 24)).cell? ⟨w.heap.size, 0, none⟩ = some (.int .i64 F.op) ∧ (w.alloc (.cells #[.int .i64 F.op, .int .i64 F.var, .slice a F.kids.length cap] 24)).cell? ⟨w.heap.size, 1, none⟩ = some (.int .i64 F.var) ∧ (w.alloc (.cells #[.int .i64 F.op, .int .i64 F.var, .slice a F.kids.length cap] 24)).cell? ⟨w.heap.size, 2, none⟩ = some (.slice a F.kids.length cap) := by simp
  have X := Lib.hid x; clear x
  by_cases hc : 300 < cnt F
  · go_enter Try.func14, Try.ntmps14
    go_wp2_with fail
    generalize w.alloc (.cells #[.int .i64 F.op, .int .i64 F.var, .slice a F.kids.length cap] 24) = w1 at *
    refine (C1.out cap _ (Below.over hB hB.size B1.out) hcnt).mono ?_
    rintro e w' ⟨rfl, hb'⟩
    have HB' := Lib.hid hb'; clear hb'
    go_wp2_with fail
    go_ret
    exact ⟨by simp [boolErr, hc], Below.over B1.out B1.out.size HB'.out⟩
  · go_enter Try.func14, Try.ntmps14
    go_wp2_with fail
    generalize w.alloc (.cells #[.int .i64 F.op, .int .i64 F.var, .slice a F.kids.length cap] 24) = w1 at *
    refine (C1.out cap _ (Below.over hB hB.size B1.out) hcnt).mono ?_
    rintro e w' ⟨rfl, hb'⟩
    obtain ⟨c0, c1, c2⟩ := X.out
    have y0 : w'.cell? ⟨w.heap.size, 0, none⟩ = some (.int .i64 F.op) := (hb'.cell (p := ⟨w.heap.size, 0, none⟩) (lt_of_cell c0)).trans c0
    have y1 : w'.cell? ⟨w.heap.size, 1, none⟩ = some (.int .i64 F.var) := (hb'.cell (p := ⟨w.heap.size, 1, none⟩) (lt_of_cell c1)).trans c1
    have y2 : w'.cell? ⟨w.heap.size, 2, none⟩ = some (.slice a F.kids.length cap) := (hb'.cell (p := ⟨w.heap.size, 2, none⟩) (lt_of_cell c2)).trans c2
    have HB' := Lib.hid hb'; clear hb' c0 c1 c2
    have BA := Lib.hid (Below.over B1.out B1.out.size HB'.out)
    go_wp2_with fail
    refine (C2.out cap _ (Below.over hB hB.size BA.out)).mono ?_
    rintro e w2 ⟨rfl, hb2⟩
    have HB2 := Lib.hid hb2; clear hb2
    go_wp2_with fail
    go_ret
    exact ⟨by simp [boolErr, hc], Below.over BA.out BA.out.size HB2.out⟩

end Go.Proofs.Ythhogbligfmpdaa

/- What holds while the kids of a formula are built, one after another. -/
namespace Go.Proofs.Ythhogbligfmpdaa
open Go.RowKit Bd

/-- The references of the first k kids lie in a row of the call's own. -/
structure KI (w : World) (M : ML) (ns : List Nd) (kids : List Fm) (bx : Obj) (k : Nat) (ao : Option Addr) (cp : Nat) (G : Nat) (wr : World) (ns' : List Nd) (dn' : List (Nd × Int)) (v' : Value) (rs : List Int) : Prop where
  st : St wr { M with v := v' } ns' dn'
  step : Step w M wr { M with v := v' }
  ext : ∃ ms, ns' = ns ++ ms ∧ ms.length ≤ G
  len : rs.length = k
  refs : ∀ i, i < k → Ref ns' (rs.getD i 0) ∧ Tab ns' (rs.getD i 0) (evF (kids.getD i (.mk 0 0 [])))
  row : wr.ownsRow (w.heap.size + 1) 3 1 (.slice ao k cp) k (rs.map (Value.int .i64))
  far : ∀ g, (Value.slice ao k cp).ownBlock = some g → ¬ ({ M with v := v' } : ML).foot g
  box : wr.heap[w.heap.size]? = some bx
  bfar : ¬ ({ M with v := v' } : ML).foot w.heap.size

theorem ownsRow_of_block {w w' : World} {base e size n : Nat} {v : Value} {xs : List Value} (h : w.ownsRow base e size v n xs) (hb : ∀ g, v.ownBlock = some g → w'.heap[g]? = w.heap[g]?) : w'.ownsRow base e size v n xs := by
  refine ⟨h.1, ?_⟩
  rcases h.2 with h2 | ⟨g, cap, cur, hv, r0, hg, r⟩
  · exact Or.inl h2
  · exact Or.inr ⟨g, cap, cur, hv, r0, (hb g (by rw [hv]; rfl)).trans hg, r⟩

theorem foot_mono {w w' : World} {M M' : ML} (h : Step w M w' M') {g : Nat} (hg : g < w.heap.size) (hf : ¬ M.foot g) : ¬ M'.foot g := by
  rintro (e | e | e | e)
  · exact hf (Or.inl (e.trans h.b))
  · exact hf (Or.inr (Or.inl (e.trans h.bi)))
  · exact hf (Or.inr (Or.inr (Or.inl (e.trans h.bd))))
  · rcases h.loc g e with e' | e'
    · exact hf (Or.inr (Or.inr (Or.inr e')))
    · omega

section
variable {w : World} {M : ML} {ns : List Nd} {kids : List Fm} {bx : Obj} {k : Nat} {ao : Option Addr} {cp G : Nat} {wr : World} {ns' : List Nd} {dn' : List (Nd × Int)} {v' : Value} {rs : List Int}

theorem KI.start {dn : List (Nd × Int)} (h : St w M ns dn) (bx : Obj) : KI w M ns kids bx 0 none 0 0 (w.alloc bx) ns dn M.v [] := by
  have lt : ∀ g, M.foot g → g < w.heap.size := fun g hg => h.mgr.lt hg
  exact ⟨h.alloc bx, Step.alloc _ _ _, ⟨[], by simp, by simp⟩, rfl, fun i hi => by omega, World.ownsRow_nil _ _ _ _, fun g hg => by simp [Value.ownBlock] at hg, heap_alloc_new w bx, fun hf => absurd (lt _ hf) (by omega)⟩

theorem KI.alloc (h : KI w M ns kids bx k ao cp G wr ns' dn' v' rs) (o : Obj) : KI w M ns kids bx k ao cp G (wr.alloc o) ns' dn' v' rs :=
  ⟨h.st.alloc o, h.step.trans (Step.alloc _ _ _), h.ext, h.len, h.refs, h.row.alloc o, h.far, (Below.heap_alloc wr o _ (lt_of_some h.box)).trans h.box, h.bfar⟩

theorem KI.drew (h : KI w M ns kids bx k ao cp G wr ns' dn' v' rs) : KI w M ns kids bx k ao cp G wr.drew ns' dn' v' rs :=
  ⟨h.st.of_step fun _ _ => rfl, h.step.trans (Step.drew _ _), h.ext, h.len, h.refs, h.row.drew, h.far, h.box, h.bfar⟩

theorem KI.le (h : KI w M ns kids bx k ao cp G wr ns' dn' v' rs) {G' : Nat} (hG : G ≤ G') : KI w M ns kids bx k ao cp G' wr ns' dn' v' rs := by
  obtain ⟨ms, e, l⟩ := h.ext
  exact ⟨h.st, h.step, ⟨ms, e, by omega⟩, h.len, h.refs, h.row, h.far, h.box, h.bfar⟩

/-- The manager has gone on: all stands as before. -/
theorem KI.call (h : KI w M ns kids bx k ao cp G wr ns' dn' v' rs) {ns2 : List Nd} {dn2 : List (Nd × Int)} {v2 : Value} {w1 : World} {g : Nat} (ext : ∃ ms, ns2 = ns' ++ ms ∧ ms.length ≤ g) (st : St w1 { M with v := v2 } ns2 dn2)
    (sp : Step wr { M with v := v' } w1 { M with v := v2 }) : KI w M ns kids bx k ao cp (G + g) w1 ns2 dn2 v2 rs := by
  obtain ⟨ms, e1, l1⟩ := ext
  obtain ⟨ms0, e0, l0⟩ := h.ext
  have lt0 : ∀ g, (Value.slice ao k cp).ownBlock = some g → g < wr.heap.size := fun g hg => (h.row.lt g hg).2
  have bxlt := lt_of_some h.box
  refine ⟨st, h.step.trans sp, ⟨ms0 ++ ms, by rw [e1, e0, List.append_assoc], by rw [List.length_append]; omega⟩, h.len, ?_, ?_, ?_, ?_, ?_⟩
  · intro i hi
    have := h.refs i hi
    rw [e1]
    exact ⟨this.1.app _, this.2.app h.st.good.ord this.1⟩
  · exact ownsRow_of_block h.row fun g hg => sp.keep g (lt0 g hg) (h.far g hg)
  · exact fun g hg => foot_mono sp (lt0 g hg) (h.far g hg)
  · exact (sp.keep _ bxlt h.bfar).trans h.box
  · exact foot_mono sp bxlt h.bfar

/-- The kid's reference is appended. -/
theorem KI.push (h : KI w M ns kids bx k ao cp G wr ns' dn' v' rs) {r : Int} (hr : Ref ns' r) (ht : Tab ns' r (evF (kids.getD k (.mk 0 0 [])))) {o : Obj} {g cap : Nat} {w2 : World}
    (hown : w2.ownsRow (w.heap.size + 1) 3 1 (.slice (some ⟨g, 0, none⟩) (k + 1) cap) (k + 1) (rs.map (Value.int .i64) ++ [.int .i64 r])) (hg : (wr.alloc o).grownBy w2 (Value.slice ao k cp).ownBlock) (hat : (Value.slice ao k cp).ownBlock = some g ∨ g = wr.heap.size + 1) :
    KI w M ns kids bx (k + 1) (some ⟨g, 0, none⟩) cap G w2 ns' dn' v' (rs ++ [r]) := by
  have keep : ∀ j, j < wr.heap.size → (Value.slice ao k cp).ownBlock ≠ some j → w2.heap[j]? = wr.heap[j]? := by
    intro j hj hne
    rw [hg.block j (by simp; omega) (fun e => hne e.symm)]
    exact Below.heap_alloc wr o j hj
  have hsz := hg.size
  simp at hsz
  have hft : ∀ j, ({ M with v := v' } : ML).foot j → j < wr.heap.size := fun j hj => h.st.mgr.lt hj
  have hrow := h.row
  refine ⟨h.st.of_step fun j hj => keep j (hft j hj) (fun e => h.far j e hj), ?_, h.ext, by simp [h.len], ?_, by simpa using hown, ?_, ?_, h.bfar⟩
  · refine ⟨rfl, rfl, rfl, hg.os.trans h.step.os, hg.tape.trans h.step.tape, hg.output.trans h.step.output, Nat.le_trans h.step.size (by omega), ?_, h.step.loc⟩
    intro j hj hf
    rw [keep j (Nat.lt_of_lt_of_le hj h.step.size) ?_, h.step.keep j hj hf]
    intro e
    have := (hrow.lt j e).1
    omega
  · intro i hi
    by_cases hik : i < k
    · have := h.refs i hik
      have e : (rs ++ [r]).getD i 0 = rs.getD i 0 := by
        simp [List.getD_eq_getElem?_getD, List.getElem?_append_left (show i < rs.length by rw [h.len]; exact hik)]
      rw [e]; exact this
    · have hik' : i = k := by omega
      subst hik'
      have e : (rs ++ [r]).getD i 0 = r := by
        rw [List.getD_eq_getElem?_getD, List.getElem?_append_right (by rw [h.len]; exact Nat.le_refl _), h.len]; simp
      rw [e]; exact ⟨hr, ht⟩
  · intro j hj
    simp only [Value.ownBlock, Option.some.injEq] at hj
    subst hj
    rcases hat with e | e
    · exact h.far _ e
    · intro hf
      have := hft _ hf
      omega
  · rw [keep _ (lt_of_some h.box) (fun e => ?_), h.box]
    have := hrow.lt _ e
    omega

end
end Go.Proofs.Ythhogbligfmpdaa
