/- What the check of a constraint answers where it must differ: two variables, no more. -/
import Derived.Test.YteiohgiecpibhaaGreatWt
set_option linter.unusedVariables false
set_option linter.unusedSimpArgs false
set_option maxRecDepth 100000
set_option maxHeartbeats 4000000
namespace Go.Proofs.YteiohgiecpibhaaGreat
open Go.RowKit Fdm

def exV (g : Nat) : Value := .agg #[.int .i64 3, .slice (some ⟨g, 0, none⟩) 2 2, .slice none 0 0, .slice none 0 0, .int .i64 0, .int .i64 0, .slice none 0 0]
def exS : Value := .agg #[.int .i64 1, .int .i64 16, .bool false, .bool false, .bool false, .bool false, .bool false]
theorem shape3 (w : World) : Calls Tryz.prog 55 #[.int .i64 3] w fun e w' => e = .returned (.tuple #[exS, .bool true]) ∧ Below w.heap.size w w' := by
  go_enter Tryz.func55, Tryz.ntmps55
  go_wp2_with fail
  exact bodyPost_ret (v := .tuple #[exS, .bool true]) (by simp [results, Tryz.results55, go_sem, exS]) rfl ⟨rfl, below_new _ _⟩
theorem index108_nil (f : Value) (w : World) : Calls Tryz.prog 108 #[.slice none 0 0, f] w fun e w' => e = .returned (.int .i64 (-1)) ∧ w' = w := by
  go_enter Tryz.func108, Tryz.ntmps108
  go_wp2_with fail
  refine wp_loop_rounds 1 ?_
  rw [rounds_succ]
  go_wp2_with fail
  go_ret
  exact ⟨rfl, rfl⟩
theorem contains81_nil (f : Value) (w : World) : Calls Tryz.prog 81 #[.slice none 0 0, f] w fun e w' => e = .returned (.bool false) ∧ w' = w := by
  have C := Lib.hid (index108_nil f w)
  go_enter Tryz.func81, Tryz.ntmps81
  go_wp2_with (go_at_call 108; refine C.out.mono ?_; rintro e w' ⟨rfl, hw⟩; have hw := hw.symm; subst hw)
  go_ret
  exact ⟨rfl, rfl⟩
theorem form3 (g : Nat) (w : World) : Calls Tryz.prog 57 #[exV g, exS] w fun e w' => e = .returned (.bool true) ∧ Below w.heap.size w w' := by
  unfold exV exS
  have CA := Lib.hid (contains81_nil)
  go_enter Tryz.func57, Tryz.ntmps57
  go_wp2_with (go_at_call 81; refine (CA.out _ _).mono ?_; rintro e w' ⟨rfl, hw⟩; have hw := hw.symm; subst hw)
  go_ret
  exact ⟨rfl, (alloc2 w _ _).2.2.1⟩
theorem ranges3 (g : Nat) (w : World) : Calls Tryz.prog 58 #[exV g, exS] w fun e w' => e = .returned (.bool true) ∧ Below w.heap.size w w' := by
  unfold exV exS
  go_enter Tryz.func58, Tryz.ntmps58
  go_wp2_with fail
  refine wp_loop_rounds 1 ?_
  rw [rounds_succ]
  go_wp2_with fail
  refine wp_loop_rounds 1 ?_
  rw [rounds_succ]
  go_wp2_with fail
  refine wp_loop_rounds 1 ?_
  rw [rounds_succ]
  go_wp2_with fail
  go_ret
  exact ⟨rfl, (alloc2 w _ _).2.2.1⟩
theorem check3 {g : Nat} {w : World} (h0 : w.cell? ⟨g, 0, none⟩ = some (.int .i64 0)) (h1 : w.cell? ⟨g, 1, none⟩ = some (.int .i64 1)) : Calls Tryz.prog 30 #[exV g, .int .i64 2] w fun e w' => e = .returned (.int .i64 0) ∧ Below w.heap.size w w' := by
  have SH := Lib.hid shape3
  have FM := Lib.hid (form3 g)
  have RG := Lib.hid (ranges3 g)
  obtain ⟨w1, hw1⟩ : ∃ w1, (w.alloc (.cells #[.int .i64 3, .slice (some ⟨g, 0, none⟩) 2 2, .slice none 0 0, .slice none 0 0, .int .i64 0, .int .i64 0, .slice none 0 0] 33)) = w1 := ⟨_, rfl⟩
  have B1 : Hid (Below w.heap.size w w1) := by show _; rw [← hw1]; exact below_new _ _
  have I1 : Hid (w1.heap[w.heap.size]? = some (.cells #[.int .i64 3, .slice (some ⟨g, 0, none⟩) 2 2, .slice none 0 0, .slice none 0 0, .int .i64 0, .int .i64 0, .slice none 0 0] 33 (0, 0))) := by show _; rw [← hw1]; exact heap_alloc_new _ _
  have H0 := Lib.hid h0; have H1 := Lib.hid h1
  unfold exV at *
  unfold exS at *
  clear h0 h1
  go_enter Tryz.func30, Tryz.ntmps30
  go_upto_region 1 with fail
  try rw [hw1]
  have b0 : w1.cell? ⟨w.heap.size, 0, none⟩ = some (.int .i64 3) := by rw [cell_of_row _ _ _ _ _ _ I1.out]; rfl
  clear hw1
  go_upto_region 2 with (go_at_call 55; refine (SH.out _).mono ?_; rintro e w2 ⟨rfl, hb⟩; have B2 := Lib.hid hb; clear hb)
  obtain ⟨w3, hw3⟩ : ∃ w3, (w2.alloc (.cells #[.int .i64 1, .int .i64 16, .bool false, .bool false, .bool false, .bool false, .bool false] 78)) = w3 := ⟨_, rfl⟩
  have B3 : Hid (Below w2.heap.size w2 w3) := by show _; rw [← hw3]; exact below_new _ _
  have I3 : Hid (w3.heap[w2.heap.size]? = some (.cells #[.int .i64 1, .int .i64 16, .bool false, .bool false, .bool false, .bool false, .bool false] 78 (0, 0))) := by show _; rw [← hw3]; exact heap_alloc_new _ _
  have BB : Hid (Below w.heap.size w w3) := over (over B1.out B2.out) B3.out
  have J1 : Hid (w3.heap[w.heap.size]? = some (.cells #[.int .i64 3, .slice (some ⟨g, 0, none⟩) 2 2, .slice none 0 0, .slice none 0 0, .int .i64 0, .int .i64 0, .slice none 0 0] 33 (0, 0))) := by
    have e1 := B2.out.block w.heap.size (Array.getElem?_eq_some_iff.1 I1.out).1
    exact (B3.out.block _ (Array.getElem?_eq_some_iff.1 (e1.trans I1.out)).1).trans (e1.trans I1.out)
  try rw [hw3]
  clear hw3
  have c0 : w3.cell? ⟨w.heap.size, 0, none⟩ = some (.int .i64 3) := by rw [cell_of_row _ _ _ _ _ _ J1.out]; rfl
  have c1 : w3.cell? ⟨w.heap.size, 1, none⟩ = some (.slice (some ⟨g, 0, none⟩) 2 2) := by rw [cell_of_row _ _ _ _ _ _ J1.out]; rfl
  have c2 : w3.cell? ⟨w.heap.size, 2, none⟩ = some (.slice none 0 0) := by rw [cell_of_row _ _ _ _ _ _ J1.out]; rfl
  have c3 : w3.cell? ⟨w.heap.size, 3, none⟩ = some (.slice none 0 0) := by rw [cell_of_row _ _ _ _ _ _ J1.out]; rfl
  have c4 : w3.cell? ⟨w.heap.size, 4, none⟩ = some (.int .i64 0) := by rw [cell_of_row _ _ _ _ _ _ J1.out]; rfl
  have c5 : w3.cell? ⟨w.heap.size, 5, none⟩ = some (.int .i64 0) := by rw [cell_of_row _ _ _ _ _ _ J1.out]; rfl
  have c6 : w3.cell? ⟨w.heap.size, 6, none⟩ = some (.slice none 0 0) := by rw [cell_of_row _ _ _ _ _ _ J1.out]; rfl
  have d0 : w3.cell? ⟨w2.heap.size, 0, none⟩ = some (.int .i64 1) := by rw [cell_of_row _ _ _ _ _ _ I3.out]; rfl
  have d1 : w3.cell? ⟨w2.heap.size, 1, none⟩ = some (.int .i64 16) := by rw [cell_of_row _ _ _ _ _ _ I3.out]; rfl
  have d2 : w3.cell? ⟨w2.heap.size, 2, none⟩ = some (.bool false) := by rw [cell_of_row _ _ _ _ _ _ I3.out]; rfl
  have d3 : w3.cell? ⟨w2.heap.size, 3, none⟩ = some (.bool false) := by rw [cell_of_row _ _ _ _ _ _ I3.out]; rfl
  have d4 : w3.cell? ⟨w2.heap.size, 4, none⟩ = some (.bool false) := by rw [cell_of_row _ _ _ _ _ _ I3.out]; rfl
  have d5 : w3.cell? ⟨w2.heap.size, 5, none⟩ = some (.bool false) := by rw [cell_of_row _ _ _ _ _ _ I3.out]; rfl
  have d6 : w3.cell? ⟨w2.heap.size, 6, none⟩ = some (.bool false) := by rw [cell_of_row _ _ _ _ _ _ I3.out]; rfl
  have g0 : w3.cell? ⟨g, 0, none⟩ = some (.int .i64 0) := cell_later BB.out (Nat.le_refl _) H0.out
  have g1 : w3.cell? ⟨g, 1, none⟩ = some (.int .i64 1) := cell_later BB.out (Nat.le_refl _) H1.out
  have K0 := Lib.hid (contains_any (l := []) (a := some ⟨g, 0, none⟩) (n := 0) (c := 2) (w := w3) 0 (fun h => absurd rfl h) rfl (by omega) (by omega))
  have K1 := Lib.hid (contains_any (l := [0]) (a := some ⟨g, 0, none⟩) (n := 1) (c := 2) (w := w3) 1 (fun _ => ⟨g, 0, rfl, fun i hi => by (have : i = 0 := by simpa using hi); subst this; exact g0⟩) rfl (by omega) (by omega))
  go_wp2_with fail
  refine wp_loop_rounds 3 ?_
  rw [rounds_succ]
  go_wp2_with (go_at_call 56; refine K0.out.mono ?_; rintro e w' ⟨rfl, hw⟩; have hw := hw.symm; subst hw)
  rw [rounds_succ]
  go_wp2_with (go_at_call 56; refine K1.out.mono ?_; rintro e w' ⟨rfl, hw⟩; have hw := hw.symm; subst hw)
  rw [rounds_succ]
  go_upto_region 16 with (go_at_call 57; refine (FM.out _).mono ?_; rintro e w4 ⟨rfl, hb⟩; have B4 := Lib.hid hb; clear hb)
  have c0' := cell_later B4.out (Nat.le_refl _) c0
  have c1' := cell_later B4.out (Nat.le_refl _) c1
  have c2' := cell_later B4.out (Nat.le_refl _) c2
  have c3' := cell_later B4.out (Nat.le_refl _) c3
  have c4' := cell_later B4.out (Nat.le_refl _) c4
  have c5' := cell_later B4.out (Nat.le_refl _) c5
  have c6' := cell_later B4.out (Nat.le_refl _) c6
  have d0' := cell_later B4.out (Nat.le_refl _) d0
  have d1' := cell_later B4.out (Nat.le_refl _) d1
  have d2' := cell_later B4.out (Nat.le_refl _) d2
  have d3' := cell_later B4.out (Nat.le_refl _) d3
  have d4' := cell_later B4.out (Nat.le_refl _) d4
  have d5' := cell_later B4.out (Nat.le_refl _) d5
  have d6' := cell_later B4.out (Nat.le_refl _) d6
  go_wp2_with (go_at_call 58; refine (RG.out _).mono ?_; rintro e w5 ⟨rfl, hb⟩; have B5 := Lib.hid hb; clear hb)
  go_ret
  exact ⟨rfl, over (over BB.out B4.out) B5.out⟩
end Go.Proofs.YteiohgiecpibhaaGreat
