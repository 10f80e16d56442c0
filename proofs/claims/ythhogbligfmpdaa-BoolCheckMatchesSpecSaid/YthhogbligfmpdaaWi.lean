/- The reference's count of a formula's nodes; CheckBool and BoolFault. -/
import Derived.Test.YthhogbligfmpdaaWh
set_option linter.unusedVariables false
set_option linter.unusedSimpArgs false
namespace Go.Proofs.Ythhogbligfmpdaa
open Go.RowKit Bd

theorem cnt_kid_le (l : List Fm) (k : Nat) (h : k < l.length) : cnt l[k] ≤ cnt.cntL l := by
  have a := cntL_take l k h
  have b := cntL_take_le l (k + 1)
  omega

set_option maxRecDepth 100000 in
set_option maxHeartbeats 400000 in
theorem rnodes_any {w0 : World} {F : Fm} {a : Option Addr} (h : FmAt w0 F a) : ∀ (cap : Nat) (w : World), Below w0.heap.size w0 w → cnt F ≤ 1000000000000 →
    Calls Try.prog 44 #[.agg #[.int .i64 F.op, .int .i64 F.var, .slice a F.kids.length cap]] w fun e w' => e = .returned (.int .i64 (cnt F)) ∧ Below w.heap.size w w' := by
  induction h with
  | mk op var kids a A Cp hl h hk ih =>
  intro cap w hB hcnt
  have IH := Lib.hid ih; clear ih
  have H := Lib.hid h; clear h
  have HK := Lib.hid hk; clear hk
  simp only [Fm.op, Fm.var, Fm.kids]
  have hcl : cnt.cntL kids ≤ 1000000000000 := by simp only [cnt] at hcnt; omega
  go_enter Try.func44, Try.ntmps44
  go_wp2_with fail
  have B1 : Hid (Below w.heap.size w (w.alloc (.cells #[.int .i64 op, .int .i64 var, .slice a kids.length cap] 24))) := (Below.refl _ _).alloc (Nat.le_refl _) _
  have S1 : Hid ((w.alloc (.cells #[.int .i64 op, .int .i64 var, .slice a kids.length cap] 24)).heap.size = w.heap.size + 1) := by show _ = _; simp
  have x2 : (w.alloc (.cells #[.int .i64 op, .int .i64 var, .slice a kids.length cap] 24)).cell? ⟨w.heap.size, 2, none⟩ = some (.slice a kids.length cap) := by simp
  generalize w.alloc (.cells #[.int .i64 op, .int .i64 var, .slice a kids.length cap] 24) = w1 at *
  go_loopw [3, 4] (fun n i wr => ∃ k : Nat, k ≤ kids.length ∧ i = .int .i64 k ∧ n = .int .i64 ((1 + cnt.cntL (kids.take k) : Nat) : Int) ∧ Below w1.heap.size w1 wr) (fun _ i _ => kids.length - (intOf i).toNat)
  case atStart => exact ⟨0, Nat.zero_le _, rfl, by simp [cnt.cntL], Below.refl _ _⟩
  case round =>
    obtain ⟨k, hkl, rfl, rfl, hb⟩ := hrel
    have y2 : wr.cell? ⟨w.heap.size, 2, none⟩ = some (.slice a kids.length cap) := (hb.cell (p := ⟨w.heap.size, 2, none⟩) (by rw [S1.out]; show w.heap.size < _; omega)).trans x2
    have HB := Lib.hid hb; clear hb x2
    have BA := Lib.hid (Below.over B1.out B1.out.size HB.out)
    have hle := cntL_take_le kids k
    by_cases hkk : k < kids.length
    · obtain ⟨b, o, rfl, hc⟩ := H.out (by intro e; rw [e] at hkk; simp at hkk)
      obtain ⟨c0, c1, c2⟩ := kid_cells (Below.over hB hB.size BA.out) (hc k hkk)
      have HC := Lib.hid hc; clear hc
      have hst := Lib.hid (cntL_take kids k hkk)
      have hle2 := cntL_take_le kids (k + 1)
      have hck := cnt_kid_le kids k hkk
      have hsum : (1 + cnt.cntL (kids.take k)) + cnt kids[k] ≤ 1000000000001 := by rw [hst.out] at hle2; omega
      go_wp2_with fail
      refine (IH.out k hkk (Cp k) _ (Below.over hB hB.size BA.out) (by omega)).mono ?_
      rintro e w' ⟨rfl, hb'⟩
      have HB' := Lib.hid hb'; clear hb'
      go_wp2_with fail
      go_roundw
      case rel => exact ⟨k + 1, by omega, by go_num, by rw [hst.out]; congr 1; omega, Below.over HB.out HB.out.size HB'.out⟩
      case measure => simp [intOf]; omega
    · have hks : kids.take k = kids := List.take_of_length_le (by omega)
      have HKS := Lib.hid hks; clear hks
      go_wp2_with fail
      go_ret
      refine ⟨?_, BA.out⟩
      rw [HKS.out]; rfl

/-- The error of a formula. -/
def boolErr (F : Fm) : Int := if 300 < cnt F then 3 else fault F

set_option maxRecDepth 100000 in
set_option maxHeartbeats 400000 in
theorem checkBool_any {w0 : World} {F : Fm} {a : Option Addr} (h : FmAt w0 F a) (cap : Nat) (w : World) (hB : Below w0.heap.size w0 w) :
    Calls Try.prog 15 #[.agg #[.int .i64 F.op, .int .i64 F.var, .slice a F.kids.length cap]] w fun e w' => e = .returned (.int .i64 (boolErr F)) ∧ Below w.heap.size w w' := by
  have C1 := Lib.hid (nodes_any h)
  have C2 := Lib.hid (boolFault_any h)
  clear h
  have B1 : Hid (Below w.heap.size w (w.alloc (.cells #[.int .i64 F.op, .int .i64 F.var, .slice a F.kids.length cap] 24))) := (Below.refl _ _).alloc (Nat.le_refl _) _
  have S1 : Hid ((w.alloc (.cells #[.int .i64 F.op, .int .i64 F.var, .slice a F.kids.length cap] 24)).heap.size = w.heap.size + 1) := by show _ = _; simp
  have x : (w.alloc (.cells #[.int .i64 F.op, .int .i64 F.var, .slice a F.kids.length cap] 24)).cell? ⟨w.heap.size, 0, none⟩ = some (.int .i64 F.op) ∧ (w.alloc (.cells #[.int .i64 F.op, .int .i64 F.var, .slice a F.kids.length cap] 24)).cell? ⟨w.heap.size, 1, none⟩ = some (.int .i64 F.var) ∧ (w.alloc (.cells #[.int .i64 F.op, .int .i64 F.var, .slice a F.kids.length cap] 24)).cell? ⟨w.heap.size, 2, none⟩ = some (.slice a F.kids.length cap) := by simp
  have X := Lib.hid x; clear x
  have hm : mn (cnt F) 300 ≤ 301 := by unfold mn; omega
  by_cases hc : 300 < cnt F
  · have hm2 : 300 < mn (cnt F) 300 := by unfold mn; omega
    go_enter Try.func15, Try.ntmps15
    go_wp2_with fail
    generalize w.alloc (.cells #[.int .i64 F.op, .int .i64 F.var, .slice a F.kids.length cap] 24) = w1 at *
    refine (C1.out cap _ 300 (Below.over hB hB.size B1.out) (by omega) (by omega)).mono ?_
    rintro e w' ⟨rfl, hb'⟩
    have HB' := Lib.hid hb'; clear hb'
    go_wp2_with fail
    go_ret
    exact ⟨by simp [boolErr, hc], Below.over B1.out B1.out.size HB'.out⟩
  · have hm2 : mn (cnt F) 300 ≤ 300 := by unfold mn; omega
    go_enter Try.func15, Try.ntmps15
    go_wp2_with fail
    generalize w.alloc (.cells #[.int .i64 F.op, .int .i64 F.var, .slice a F.kids.length cap] 24) = w1 at *
    refine (C1.out cap _ 300 (Below.over hB hB.size B1.out) (by omega) (by omega)).mono ?_
    rintro e w' ⟨rfl, hb'⟩
    obtain ⟨c0, c1, c2⟩ := X.out
    have y0 : w'.cell? ⟨w.heap.size, 0, none⟩ = some (.int .i64 F.op) := (hb'.cell (p := ⟨w.heap.size, 0, none⟩) (lt_of_cell c0)).trans c0
    have y1 : w'.cell? ⟨w.heap.size, 1, none⟩ = some (.int .i64 F.var) := (hb'.cell (p := ⟨w.heap.size, 1, none⟩) (lt_of_cell c1)).trans c1
    have y2 : w'.cell? ⟨w.heap.size, 2, none⟩ = some (.slice a F.kids.length cap) := (hb'.cell (p := ⟨w.heap.size, 2, none⟩) (lt_of_cell c2)).trans c2
    have HB' := Lib.hid hb'; clear hb' c0 c1 c2
    have BA := Lib.hid (Below.over B1.out B1.out.size HB'.out)
    go_wp2_with fail
    refine (C2.out cap _ (Below.over hB hB.size BA.out)).mono ?_
    rintro e w2 ⟨rfl, hb2⟩
    have HB2 := Lib.hid hb2; clear hb2
    go_wp2_with fail
    go_ret
    exact ⟨by simp [boolErr, hc], Below.over BA.out BA.out.size HB2.out⟩

set_option maxRecDepth 100000 in
set_option maxHeartbeats 400000 in
theorem boolFaultR_any {w0 : World} {F : Fm} {a : Option Addr} (h : FmAt w0 F a) (cap : Nat) (w : World) (hB : Below w0.heap.size w0 w) (hcnt : cnt F ≤ 1000000000000) :
    Calls Try.prog 14 #[.agg #[.int .i64 F.op, .int .i64 F.var, .slice a F.kids.length cap]] w fun e w' => e = .returned (.int .i64 (boolErr F)) ∧ Below w.heap.size w w' := by
  have C1 := Lib.hid (rnodes_any h)
  have C2 := Lib.hid (formulaFault_any h)
  clear h
  have B1 : Hid (Below w.heap.size w (w.alloc (.cells #[.int .i64 F.op, .int .i64 F.var, .slice a F.kids.length cap] 24))) := (Below.refl _ _).alloc (Nat.le_refl _) _
  have S1 : Hid ((w.alloc (.cells #[.int .i64 F.op, .int .i64 F.var, .slice a F.kids.length cap] 24)).heap.size = w.heap.size + 1) := by show _ = _; simp
  have x : (w.alloc (.cells #[.int .i64 F.op, .int .i64 F.var, .slice a F.kids.length cap] 24)).cell? ⟨w.heap.size, 0, none⟩ = some (.int .i64 F.op) ∧ (w.alloc (.cells #[.int .i64 F.op, .int .i64 F.var, .slice a F.kids.length cap] 24)).cell? ⟨w.heap.size, 1, none⟩ = some (.int .i64 F.var) ∧ (w.alloc (.cells #[.int .i64 F.op, .int .i64 F.var, .slice a F.kids.length cap] 24)).cell? ⟨w.heap.size, 2, none⟩ = some (.slice a F.kids.length cap) := by simp
  have X := Lib.hid x; clear x
  by_cases hc : 300 < cnt F
  · go_enter Try.func14, Try.ntmps14
    go_wp2_with fail
    generalize w.alloc (.cells #[.int .i64 F.op, .int .i64 F.var, .slice a F.kids.length cap] 24) = w1 at *
    refine (C1.out cap _ (Below.over hB hB.size B1.out) hcnt).mono ?_
    rintro e w' ⟨rfl, hb'⟩
    have HB' := Lib.hid hb'; clear hb'
    go_wp2_with fail
    go_ret
    exact ⟨by simp [boolErr, hc], Below.over B1.out B1.out.size HB'.out⟩
  · go_enter Try.func14, Try.ntmps14
    go_wp2_with fail
    generalize w.alloc (.cells #[.int .i64 F.op, .int .i64 F.var, .slice a F.kids.length cap] 24) = w1 at *
    refine (C1.out cap _ (Below.over hB hB.size B1.out) hcnt).mono ?_
    rintro e w' ⟨rfl, hb'⟩
    obtain ⟨c0, c1, c2⟩ := X.out
    have y0 : w'.cell? ⟨w.heap.size, 0, none⟩ = some (.int .i64 F.op) := (hb'.cell (p := ⟨w.heap.size, 0, none⟩) (lt_of_cell c0)).trans c0
    have y1 : w'.cell? ⟨w.heap.size, 1, none⟩ = some (.int .i64 F.var) := (hb'.cell (p := ⟨w.heap.size, 1, none⟩) (lt_of_cell c1)).trans c1
    have y2 : w'.cell? ⟨w.heap.size, 2, none⟩ = some (.slice a F.kids.length cap) := (hb'.cell (p := ⟨w.heap.size, 2, none⟩) (lt_of_cell c2)).trans c2
    have HB' := Lib.hid hb'; clear hb' c0 c1 c2
    have BA := Lib.hid (Below.over B1.out B1.out.size HB'.out)
    go_wp2_with fail
    refine (C2.out cap _ (Below.over hB hB.size BA.out)).mono ?_
    rintro e w2 ⟨rfl, hb2⟩
    have HB2 := Lib.hid hb2; clear hb2
    go_wp2_with fail
    go_ret
    exact ⟨by simp [boolErr, hc], Below.over BA.out BA.out.size HB2.out⟩

end Go.Proofs.Ythhogbligfmpdaa
