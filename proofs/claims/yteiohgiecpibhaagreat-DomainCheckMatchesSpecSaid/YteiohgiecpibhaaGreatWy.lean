/- Label, of the store with the two variables that must differ. -/
import Derived.Test.YteiohgiecpibhaaGreatWx
set_option linter.unusedVariables false
set_option linter.unusedSimpArgs false
set_option maxRecDepth 100000
set_option maxHeartbeats 4000000
namespace Go.Proofs.YteiohgiecpibhaaGreat
open Go.RowKit Fdm

theorem listed3 {g : Nat} {w : World} {a pa : Option Addr} {c pc : Nat} (h0 : w.cell? ⟨g, 0, none⟩ = some (.int .i64 0)) (h1 : w.cell? ⟨g, 1, none⟩ = some (.int .i64 1)) :
    Calls Tryz.prog 62 #[.agg #[.slice a 2 c, .slice pa 1 pc], .slice (some ⟨g, 0, none⟩) 2 2, .int .i64 0, .int .i64 0] w fun e w' => e = .returned (.int .i64 0) ∧ Below w.heap.size w w' := by
  obtain ⟨w1, hw1⟩ : ∃ w1, (w.alloc (.cells #[.slice a 2 c, .slice pa 1 pc] 86)) = w1 := ⟨_, rfl⟩
  have B1 : Hid (Below w.heap.size w w1) := by show _; rw [← hw1]; exact below_new _ _
  have I1 : Hid (w1.heap[w.heap.size]? = some (.cells #[.slice a 2 c, .slice pa 1 pc] 86 (0, 0))) := by show _; rw [← hw1]; exact heap_alloc_new _ _
  have H0 := Lib.hid h0; have H1 := Lib.hid h1
  clear h0 h1
  go_enter Tryz.func62, Tryz.ntmps62
  go_upto_region 1 with fail
  try rw [hw1]
  have b0 : w1.cell? ⟨w.heap.size, 0, none⟩ = some (.slice a 2 c) := by rw [cell_of_row _ _ _ _ _ _ I1.out]; rfl
  clear hw1
  have g0 : w1.cell? ⟨g, 0, none⟩ = some (.int .i64 0) := cell_later B1.out (Nat.le_refl _) H0.out
  have g1 : w1.cell? ⟨g, 1, none⟩ = some (.int .i64 1) := cell_later B1.out (Nat.le_refl _) H1.out
  have K0 := Lib.hid (contains_any (l := []) (a := some ⟨g, 0, none⟩) (n := 0) (c := 2) (w := w1) 0 (fun h => absurd rfl h) rfl (by omega) (by omega))
  have K1 := Lib.hid (contains_any (l := [0]) (a := some ⟨g, 0, none⟩) (n := 1) (c := 2) (w := w1) 1 (fun _ => ⟨g, 0, rfl, fun i hi => by (have : i = 0 := by simpa using hi); subst this; exact g0⟩) rfl (by omega) (by omega))
  go_wp2_with fail
  refine wp_loop_rounds 3 ?_
  rw [rounds_succ]
  go_wp2_with (go_at_call 56; refine K0.out.mono ?_; rintro e w' ⟨rfl, hw⟩; have hw := hw.symm; subst hw)
  rw [rounds_succ]
  go_wp2_with (go_at_call 56; refine K1.out.mono ?_; rintro e w' ⟨rfl, hw⟩; have hw := hw.symm; subst hw)
  rw [rounds_succ]
  go_wp2_with fail
  go_ret
  exact ⟨rfl, B1.out⟩
end Go.Proofs.YteiohgiecpibhaaGreat
