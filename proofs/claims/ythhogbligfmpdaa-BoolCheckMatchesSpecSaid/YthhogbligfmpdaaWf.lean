/- Formulas in memory; the functions that count and check them. -/
import Derived.Test.YthhogbligfmpdaaWe
set_option linter.unusedVariables false
set_option linter.unusedSimpArgs false
namespace Go.Proofs.Ythhogbligfmpdaa
open Go.RowKit Bd

/-- The formula's kids lie at this slice. -/
inductive FmAt (w : World) : Fm → Option Addr → Prop where
  | mk (op var : Int) (kids : List Fm) (a : Option Addr) (A : Nat → Option Addr) (Cp : Nat → Nat) (hl : kids.length ≤ 9223372036854775807)
      (h : kids ≠ [] → ∃ b o, a = some ⟨b, o, none⟩ ∧ ∀ i (hi : i < kids.length), w.cell? ⟨b, o + i * 3, none⟩ = some (.int .i64 kids[i].op) ∧ w.cell? ⟨b, o + i * 3 + 1, none⟩ = some (.int .i64 kids[i].var) ∧ w.cell? ⟨b, o + i * 3 + 2, none⟩ = some (.slice (A i) kids[i].kids.length (Cp i)))
      (hk : ∀ i (hi : i < kids.length), FmAt w kids[i] (A i)) : FmAt w (.mk op var kids) a

def fmV (F : Fm) (a : Option Addr) (cap : Nat) : Value := .agg #[.int .i64 F.op, .int .i64 F.var, .slice a F.kids.length cap]

theorem lt_of_cell {w : World} {a : Addr} {v : Value} (h : w.cell? a = some v) : a.block < w.heap.size := World.block_lt_of_cell? w _ h

theorem kid_cells {w0 w : World} (hB : Below w0.heap.size w0 w) {b p q r : Nat} {x y z : Value} (d : w0.cell? ⟨b, p, none⟩ = some x ∧ w0.cell? ⟨b, q, none⟩ = some y ∧ w0.cell? ⟨b, r, none⟩ = some z) :
    w.cell? ⟨b, p, none⟩ = some x ∧ w.cell? ⟨b, q, none⟩ = some y ∧ w.cell? ⟨b, r, none⟩ = some z := by
  obtain ⟨d0, d1, d2⟩ := d
  exact ⟨(hB.cell (p := ⟨b, p, none⟩) (lt_of_cell d0)).trans d0, (hB.cell (p := ⟨b, q, none⟩) (lt_of_cell d1)).trans d1, (hB.cell (p := ⟨b, r, none⟩) (lt_of_cell d2)).trans d2⟩

theorem Below.over {B : Nat} {w0 w w' : World} (h : Below B w0 w) (hB : B ≤ w.heap.size) (k : Below w.heap.size w w') : Below B w0 w' := h.trans (k.mono hB)

def mn (x : Nat) (most : Int) : Int := min (x : Int) (most + 1)
theorem mn_step {x y : Nat} {most : Int} (h : mn x most ≤ most) : mn x most + mn y (most - mn x most) = mn (x + y) most := by unfold mn at *; omega
theorem mn_stop {x y : Nat} {most : Int} (h : ¬ mn x most ≤ most) (hxy : x ≤ y) : mn x most = mn y most := by unfold mn at *; omega

set_option maxRecDepth 100000 in
set_option maxHeartbeats 400000 in
theorem nodes_any {w0 : World} {F : Fm} {a : Option Addr} (h : FmAt w0 F a) : ∀ (cap : Nat) (w : World) (most : Int), Below w0.heap.size w0 w → 0 ≤ most → most ≤ 300 →
    Calls Try.prog 46 #[.agg #[.int .i64 F.op, .int .i64 F.var, .slice a F.kids.length cap], .int .i64 most] w fun e w' => e = .returned (.int .i64 (mn (cnt F) most)) ∧ Below w.heap.size w w' := by
  induction h with
  | mk op var kids a A Cp hl h hk ih =>
  intro cap w most hB h0 h1
  have IH := Lib.hid ih; clear ih
  have H := Lib.hid h; clear h
  have HK := Lib.hid hk; clear hk
  simp only [Fm.op, Fm.var, Fm.kids]
  go_enter Try.func46, Try.ntmps46
  go_wp2_with fail
  go_loopw [5, 11] (fun n i wr => ∃ k : Nat, k ≤ kids.length ∧ i = .int .i64 k ∧ n = .int .i64 (mn (1 + cnt.cntL (kids.take k)) most) ∧ Below w.heap.size w wr ∧ w.heap.size < wr.heap.size)
     (fun _ i _ => kids.length - (intOf i).toNat)
  case atStart => exact ⟨0, Nat.zero_le _, rfl, by simp [cnt.cntL, mn]; omega, (Below.refl _ _).alloc (Nat.le_refl _) _, by simp⟩
  case round =>
    obtain ⟨k, hkl, rfl, rfl, hb, hlt⟩ := hrel
    have hmn : mn (1 + cnt.cntL (kids.take k)) most ≤ most + 1 := by unfold mn; omega
    have hmn0 : 0 ≤ mn (1 + cnt.cntL (kids.take k)) most := by unfold mn; omega
    by_cases hkk : k < kids.length
    · obtain ⟨b, o, rfl, hc⟩ := H.out (by intro e; rw [e] at hkk; simp at hkk)
      obtain ⟨c0, c1, c2⟩ := kid_cells (Below.over hB hB.size hb) (hc k hkk)
      have HC := Lib.hid hc; clear hc
      have HB := Lib.hid hb; clear hb
      by_cases hbr : mn (1 + cnt.cntL (kids.take k)) most ≤ most
      · go_wp2_with fail
        refine (IH.out k hkk (Cp k) _ _ ((Below.over hB hB.size HB.out).alloc (Nat.le_trans hB.size HB.out.size) _) (by omega) (by omega)).mono ?_
        rintro e w' ⟨rfl, hb'⟩
        have HB' := Lib.hid hb'; clear hb'
        have hms := mn_step (y := cnt kids[k]) hbr
        have hmk : mn (1 + cnt.cntL (kids.take k)) most + mn (cnt kids[k]) (most - mn (1 + cnt.cntL (kids.take k)) most) ≤ most + 1 := by rw [hms]; unfold mn; omega
        have hmk0 : 0 ≤ mn (1 + cnt.cntL (kids.take k)) most + mn (cnt kids[k]) (most - mn (1 + cnt.cntL (kids.take k)) most) := by rw [hms]; unfold mn; omega
        have HMS := Lib.hid hms; clear hms
        go_wp2_with fail
        go_roundw
        case rel => exact ⟨k + 1, by omega, by go_num, by rw [HMS.out, cntL_take kids k hkk, Nat.add_assoc], Below.over HB.out HB.out.size (((Below.refl _ _).alloc (Nat.le_refl _) _).trans (HB'.out.mono (by simp))), by have := HB'.out.size; simp at this; omega⟩
        case measure => simp [intOf]; omega
      · have hbr2 := mn_stop (y := 1 + cnt.cntL kids) hbr (by have := cntL_take_le kids k; omega)
        have HBR := Lib.hid hbr2; clear hbr2
        go_wp2_with fail
        go_ret
        refine ⟨?_, HB.out.trans ((Below.refl _ _).alloc HB.out.size _)⟩
        rw [HBR.out]; rfl
    · have hks : kids.take k = kids := List.take_of_length_le (by omega)
      have HKS := Lib.hid hks; clear hks
      go_wp2_with fail
      go_ret
      refine ⟨?_, hb⟩
      rw [HKS.out]; rfl

end Go.Proofs.Ythhogbligfmpdaa
