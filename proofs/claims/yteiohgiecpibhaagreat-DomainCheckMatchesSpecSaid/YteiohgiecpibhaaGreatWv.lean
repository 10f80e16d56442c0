/- The clone of the constraint that must differ, and its posting. -/
import Derived.Test.YteiohgiecpibhaaGreatWst
import Derived.Test.YteiohgiecpibhaaGreatWu
set_option linter.unusedVariables false
set_option linter.unusedSimpArgs false
set_option maxRecDepth 100000
set_option maxHeartbeats 4000000
namespace Go.Proofs.YteiohgiecpibhaaGreat
open Go.RowKit Fdm

theorem own_in {w : World} {b : Nat} {l : List Int} {v : Value} {n : Nat} (h : OwP (fun _ => True) w b 3 1 v n (l.map (Value.int .i64))) (hn : l.length = n) (hl : n ≤ 1000000) : ∃ a c, v = .slice a n c ∧ InV w l v := by
  subst hn
  rcases h.own.2 with ⟨rfl, h0⟩ | ⟨g, cap, cur, rfl, hb, hg, hnc, hcm, hcs, htake⟩
  · have : l = [] := List.length_eq_zero_iff.1 h0
    subst this
    exact ⟨_, _, rfl, ⟨none, 0, rfl, Nat.le_refl _, by omega, fun h => absurd rfl h⟩⟩
  · refine ⟨_, _, rfl, ⟨_, _, rfl, hnc, by unfold maxLen at hcm; omega, fun _ => ⟨g, 0, rfl, ⟨_, hg⟩, fun i hi => ?_⟩⟩⟩
    have := h.own.cellAt (g := g) (j := i) (by simpa using hi)
    simpa [hi] using this
theorem row71 {w : World} {g : Nat} {c0 c1 c2 c3 c4 c5 c6 x : Value} {t : Nat} (h : w.heap[g]? = some (.cells #[c0, c1, c2, c3, c4, c5, c6] t (0, 0))) : (w.setCell ⟨g, 1, none⟩ x).heap[g]? = some (.cells #[c0, x, c2, c3, c4, c5, c6] t (0, 0)) := by
  simp [World.setCell, Array.getElem?_modify, h]
theorem row72 {w : World} {g : Nat} {c0 c1 c2 c3 c4 c5 c6 x : Value} {t : Nat} (h : w.heap[g]? = some (.cells #[c0, c1, c2, c3, c4, c5, c6] t (0, 0))) : (w.setCell ⟨g, 2, none⟩ x).heap[g]? = some (.cells #[c0, c1, x, c3, c4, c5, c6] t (0, 0)) := by
  simp [World.setCell, Array.getElem?_modify, h]
theorem row73 {w : World} {g : Nat} {c0 c1 c2 c3 c4 c5 c6 x : Value} {t : Nat} (h : w.heap[g]? = some (.cells #[c0, c1, c2, c3, c4, c5, c6] t (0, 0))) : (w.setCell ⟨g, 3, none⟩ x).heap[g]? = some (.cells #[c0, c1, c2, x, c4, c5, c6] t (0, 0)) := by
  simp [World.setCell, Array.getElem?_modify, h]
theorem row76 {w : World} {g : Nat} {c0 c1 c2 c3 c4 c5 c6 x : Value} {t : Nat} (h : w.heap[g]? = some (.cells #[c0, c1, c2, c3, c4, c5, c6] t (0, 0))) : (w.setCell ⟨g, 6, none⟩ x).heap[g]? = some (.cells #[c0, c1, c2, c3, c4, c5, x] t (0, 0)) := by
  simp [World.setCell, Array.getElem?_modify, h]
def nest7 (w : World) (g : Nat) (x0 x1 x2 x3 x4 x5 x6 : Value) : World := ((((((w.setCell ⟨g, 0, none⟩ x0).setCell ⟨g, 1, none⟩ x1).setCell ⟨g, 2, none⟩ x2).setCell ⟨g, 3, none⟩ x3).setCell ⟨g, 4, none⟩ x4).setCell ⟨g, 5, none⟩ x5).setCell ⟨g, 6, none⟩ x6
theorem nest7_row {w : World} {g : Nat} {c0 c1 c2 c3 c4 c5 c6 x0 x1 x2 x3 x4 x5 x6 : Value} {t : Nat} (h : w.heap[g]? = some (.cells #[c0, c1, c2, c3, c4, c5, c6] t (0, 0))) : (nest7 w g x0 x1 x2 x3 x4 x5 x6).heap[g]? = some (.cells #[x0, x1, x2, x3, x4, x5, x6] t (0, 0)) := by
  simp [nest7, World.setCell, Array.getElem?_modify, h]
theorem nest7_but (w : World) (g : Nat) (x0 x1 x2 x3 x4 x5 x6 : Value) : But g w (nest7 w g x0 x1 x2 x3 x4 x5 x6) :=
  (((((((But.setCell _ _ _ _).trans (But.setCell _ _ _ _)).trans (But.setCell _ _ _ _)).trans (But.setCell _ _ _ _)).trans (But.setCell _ _ _ _)).trans (But.setCell _ _ _ _)).trans (But.setCell _ _ _ _))
theorem clone3 {g : Nat} {w : World} (h0 : w.cell? ⟨g, 0, none⟩ = some (.int .i64 0)) (h1 : w.cell? ⟨g, 1, none⟩ = some (.int .i64 1)) : Calls Tryz.prog 101 #[exV g] w fun e w' => ∃ x1 x2 x3, e = .returned (.agg #[.int .i64 3, x1, x2, x3, .int .i64 0, .int .i64 0, .slice none 0 0]) ∧ Kc w' exC x1 x2 x3 (.slice none 0 0) ∧ Below w.heap.size w w' := by
  obtain ⟨w1, hw1⟩ : ∃ w1, ((w.alloc (.cells #[.int .i64 3, .slice (some ⟨g, 0, none⟩) 2 2, .slice none 0 0, .slice none 0 0, .int .i64 0, .int .i64 0, .slice none 0 0] 33)).alloc (.cells #[.int .i64 0, .slice none 0 0, .slice none 0 0, .slice none 0 0, .int .i64 0, .int .i64 0, .slice none 0 0] 33)) = w1 := ⟨_, rfl⟩
  have AL := alloc2 w (.cells #[.int .i64 3, .slice (some ⟨g, 0, none⟩) 2 2, .slice none 0 0, .slice none 0 0, .int .i64 0, .int .i64 0, .slice none 0 0] 33) (.cells #[.int .i64 0, .slice none 0 0, .slice none 0 0, .slice none 0 0, .int .i64 0, .int .i64 0, .slice none 0 0] 33)
  rw [hw1] at AL
  obtain ⟨a0, a1, a2, a3⟩ := AL
  have I0 := Lib.hid a0; have I1 := Lib.hid a1; have B1 := Lib.hid a2; have Z1 := Lib.hid a3
  have H0 := Lib.hid (cell_later a2 (Nat.le_refl _) h0); have H1 := Lib.hid (cell_later a2 (Nat.le_refl _) h1)
  clear a0 a1 a2 a3 h0 h1
  unfold exV
  go_enter Tryz.func101, Tryz.ntmps101
  go_upto_region 1 with fail
  try rw [hw1]
  clear hw1
  have c1 : w1.cell? ⟨w.heap.size, 1, none⟩ = some (.slice (some ⟨g, 0, none⟩) 2 2) := by rw [cell_of_row _ _ _ _ _ _ I0.out]; rfl
  have c2 : w1.cell? ⟨w.heap.size, 2, none⟩ = some (.slice none 0 0) := by rw [cell_of_row _ _ _ _ _ _ I0.out]; rfl
  have c3 : w1.cell? ⟨w.heap.size, 3, none⟩ = some (.slice none 0 0) := by rw [cell_of_row _ _ _ _ _ _ I0.out]; rfl
  have g0 := H0.out; have g1 := H1.out
  refine Rg.s0 10 [] fun W hW => ?_
  refine Rg.t 0 ?_
  refine Rg.t 1 ?_
  refine Rg.t 3 ?_
  refine Rg.t 4 ?_
  refine Rg.t 6 ?_
  refine Rg.t 7 ?_
  refine Rg.c1 2 fun K' hK => ?_
  (try simp only [zA, zB, zC])
  go_simp
  refine (clone63 (vs := [.int .i64 0, .int .i64 1]) (n := 2) rfl (by simp [Value.oneCell']) (fun _ => ⟨g, 0, rfl, fun j u hu => ?_⟩) (by omega)).mono ?_
  · match j, hu with
    | 0, hu => rw [← hu]; exact cell_later hW (Nat.le_refl _) g0
    | 1, hu => rw [← hu]; exact cell_later hW (Nat.le_refl _) g1
  rintro e w2 ⟨v1, rfl, o1, b2⟩
  obtain ⟨p1, q1, rfl, V1⟩ := own_in (l := [0, 1]) o1 rfl (by omega)
  refine Rg.e1 hK (over hW b2) ?_
  clear hK K' o1
  refine Rg.t 9 ?_
  refine Rg.c1 5 fun K' hK => ?_
  (try simp only [zA, zB, zC])
  go_simp
  refine (clone63 (vs := []) (n := 0) rfl (fun _ h => absurd h (by simp)) (fun h => absurd rfl h) (by omega)).mono ?_
  rintro e w3 ⟨v2, rfl, o2, b3⟩
  obtain ⟨p2, q2, rfl, V2⟩ := own_in (l := []) o2 rfl (by omega)
  refine Rg.e1 hK (over (over hW b2) b3) ?_
  clear hK K' o2
  refine Rg.c1 8 fun K' hK => ?_
  (try simp only [zA, zB, zC])
  go_simp
  refine (clone63 (vs := []) (n := 0) rfl (fun _ h => absurd h (by simp)) (fun h => absurd rfl h) (by omega)).mono ?_
  rintro e w4 ⟨v3, rfl, o3, b4⟩
  obtain ⟨p3, q3, rfl, V3⟩ := own_in (l := []) o3 rfl (by omega)
  have B4 : Hid (Below w1.heap.size w1 w4) := over (over (over hW b2) b3) b4
  refine Rg.e1 hK B4.out ?_
  clear hK K' o3
  have X1 := Lib.hid (V1.kp ((KpT.of_below b3).trans (KpT.of_below b4)))
  have X2 := Lib.hid (V2.kp (KpT.of_below b4))
  have X3 := Lib.hid V3
  have R4 : w4.heap[w.heap.size]? = some (.cells #[.int .i64 3, .slice (some ⟨g, 0, none⟩) 2 2, .slice none 0 0, .slice none 0 0, .int .i64 0, .int .i64 0, .slice none 0 0] 33 (0, 0)) := (B4.out.block w.heap.size (by have := Z1.out; omega)).trans I0.out
  have R4H := Lib.hid R4
  have D4 : Hid (w4.heap[w.heap.size + 1]? = some (.cells #[.int .i64 0, .slice none 0 0, .slice none 0 0, .slice none 0 0, .int .i64 0, .int .i64 0, .slice none 0 0] 33 (0, 0))) := (B4.out.block _ (by have := Z1.out; omega)).trans I1.out
  clear V1 V2 V3 b2 b3 b4 hW c1 c2 c3 g0 g1
  obtain ⟨w5, hw5⟩ : ∃ w5, w4.setCell ⟨w.heap.size, 1, none⟩ (.slice p1 2 q1) = w5 := ⟨_, rfl⟩
  obtain ⟨w6, hw6⟩ : ∃ w6, w5.setCell ⟨w.heap.size, 2, none⟩ (.slice p2 0 q2) = w6 := ⟨_, rfl⟩
  obtain ⟨w7, hw7⟩ : ∃ w7, w6.setCell ⟨w.heap.size, 3, none⟩ (.slice p3 0 q3) = w7 := ⟨_, rfl⟩
  have R5 := row71 (x := .slice p1 2 q1) R4
  rw [hw5] at R5
  have R6 := row72 (x := .slice p2 0 q2) R5
  rw [hw6] at R6
  have R7 := row73 (x := .slice p3 0 q3) R6
  rw [hw7] at R7
  have BU : Hid (But w.heap.size w4 w7) := by
    show But _ _ _
    rw [← hw7, ← hw6, ← hw5]
    exact ((But.setCell _ _ _ _).trans (But.setCell _ _ _ _)).trans (But.setCell _ _ _ _)
  have z4 : w4.cell? ⟨w.heap.size, 1, none⟩ = some (.slice (some ⟨g, 0, none⟩) 2 2) := by rw [cell_of_row _ _ _ _ _ _ R4]; rfl
  have z5 : w5.cell? ⟨w.heap.size, 2, none⟩ = some (.slice none 0 0) := by rw [cell_of_row _ _ _ _ _ _ R5]; rfl
  have z6 : w6.cell? ⟨w.heap.size, 3, none⟩ = some (.slice none 0 0) := by rw [cell_of_row _ _ _ _ _ _ R6]; rfl
  have fz4 : w4.frozen? ⟨w.heap.size, 1, none⟩ = false := by simp [World.frozen?, R4]
  have fz5 : w5.frozen? ⟨w.heap.size, 2, none⟩ = false := by simp [World.frozen?, R5]
  have fz6 : w6.frozen? ⟨w.heap.size, 3, none⟩ = false := by simp [World.frozen?, R6]
  have R7H := Lib.hid R7
  clear R4 R5 R6 R7
  refine fun _ _ _ => Rg.wt 10 rfl fun K' hK => ?_
  (try simp only [zA, zB, zC])
  go_simp
  try rw [hw5]
  refine hK.out _ _ ?_
  clear hK K'
  try simp only [Act.put, zA, zB, zC, zD, zE, zF]
  refine Rg.wt 11 rfl fun K' hK => ?_
  (try simp only [zA, zB, zC])
  go_simp
  refine hK.out _ _ ?_
  clear hK K'
  try simp only [Act.put, zA, zB, zC, zD, zE, zF]
  refine Rg.wt 12 rfl fun K' hK => ?_
  (try simp only [zA, zB, zC])
  go_simp
  try rw [hw6]
  refine hK.out _ _ ?_
  clear hK K'
  try simp only [Act.put, zA, zB, zC, zD, zE, zF]
  refine Rg.wt 13 rfl fun K' hK => ?_
  (try simp only [zA, zB, zC])
  go_simp
  refine hK.out _ _ ?_
  clear hK K'
  try simp only [Act.put, zA, zB, zC, zD, zE, zF]
  refine Rg.wt 14 rfl fun K' hK => ?_
  (try simp only [zA, zB, zC])
  go_simp
  try rw [hw7]
  refine hK.out _ _ ?_
  clear hK K' hw5 hw6 hw7 z4 z5 z6 fz4 fz5 fz6
  try simp only [Act.put, zA, zB, zC, zD, zE, zF]
  refine Rg.wpD_done (by kernel_rfl) ?_
  obtain ⟨w8, hw8⟩ : ∃ w8, w7.setCell ⟨w.heap.size, 6, none⟩ (.slice none 0 0) = w8 := ⟨_, rfl⟩
  have R8 := row76 (x := .slice none 0 0) R7H.out
  rw [hw8] at R8
  have R8H := Lib.hid R8
  have BV : Hid (But w.heap.size w7 w8) := by show But _ _ _; rw [← hw8]; exact But.setCell _ _ _ _
  have D7 : w7.heap[w.heap.size + 1]? = some (.cells #[.int .i64 0, .slice none 0 0, .slice none 0 0, .slice none 0 0, .int .i64 0, .int .i64 0, .slice none 0 0] 33 (0, 0)) := (BU.out.block _ (by have := (Array.getElem?_eq_some_iff.1 D4.out).1; exact this) (by omega)).trans D4.out
  have D8 : w8.heap[w.heap.size + 1]? = some (.cells #[.int .i64 0, .slice none 0 0, .slice none 0 0, .slice none 0 0, .int .i64 0, .int .i64 0, .slice none 0 0] 33 (0, 0)) := (BV.out.block _ (Array.getElem?_eq_some_iff.1 D7).1 (by omega)).trans D7
  have D8H := Lib.hid D8
  have R7 := R7H.out
  have u6 : w7.cell? ⟨w.heap.size, 6, none⟩ = some (.slice none 0 0) := by rw [cell_of_row _ _ _ _ _ _ R7]; rfl
  have fz7 : w7.frozen? ⟨w.heap.size, 6, none⟩ = false := by simp [World.frozen?, R7]
  have v0 : w8.cell? ⟨w.heap.size, 0, none⟩ = some (.int .i64 3) := by rw [cell_of_row _ _ _ _ _ _ R8]; rfl
  have y0 : w8.cell? ⟨w.heap.size + 1, 0, none⟩ = some (.int .i64 0) := by rw [cell_of_row _ _ _ _ _ _ D8]; rfl
  have f0z : w8.frozen? ⟨w.heap.size + 1, 0, none⟩ = false := by simp [World.frozen?, D8]
  have v1 : w8.cell? ⟨w.heap.size, 1, none⟩ = some (.slice p1 2 q1) := by rw [cell_of_row _ _ _ _ _ _ R8]; rfl
  have y1 : w8.cell? ⟨w.heap.size + 1, 1, none⟩ = some (.slice none 0 0) := by rw [cell_of_row _ _ _ _ _ _ D8]; rfl
  have f1z : w8.frozen? ⟨w.heap.size + 1, 1, none⟩ = false := by simp [World.frozen?, D8]
  have v2 : w8.cell? ⟨w.heap.size, 2, none⟩ = some (.slice p2 0 q2) := by rw [cell_of_row _ _ _ _ _ _ R8]; rfl
  have y2 : w8.cell? ⟨w.heap.size + 1, 2, none⟩ = some (.slice none 0 0) := by rw [cell_of_row _ _ _ _ _ _ D8]; rfl
  have f2z : w8.frozen? ⟨w.heap.size + 1, 2, none⟩ = false := by simp [World.frozen?, D8]
  have v3 : w8.cell? ⟨w.heap.size, 3, none⟩ = some (.slice p3 0 q3) := by rw [cell_of_row _ _ _ _ _ _ R8]; rfl
  have y3 : w8.cell? ⟨w.heap.size + 1, 3, none⟩ = some (.slice none 0 0) := by rw [cell_of_row _ _ _ _ _ _ D8]; rfl
  have f3z : w8.frozen? ⟨w.heap.size + 1, 3, none⟩ = false := by simp [World.frozen?, D8]
  have v4 : w8.cell? ⟨w.heap.size, 4, none⟩ = some (.int .i64 0) := by rw [cell_of_row _ _ _ _ _ _ R8]; rfl
  have y4 : w8.cell? ⟨w.heap.size + 1, 4, none⟩ = some (.int .i64 0) := by rw [cell_of_row _ _ _ _ _ _ D8]; rfl
  have f4z : w8.frozen? ⟨w.heap.size + 1, 4, none⟩ = false := by simp [World.frozen?, D8]
  have v5 : w8.cell? ⟨w.heap.size, 5, none⟩ = some (.int .i64 0) := by rw [cell_of_row _ _ _ _ _ _ R8]; rfl
  have y5 : w8.cell? ⟨w.heap.size + 1, 5, none⟩ = some (.int .i64 0) := by rw [cell_of_row _ _ _ _ _ _ D8]; rfl
  have f5z : w8.frozen? ⟨w.heap.size + 1, 5, none⟩ = false := by simp [World.frozen?, D8]
  have v6 : w8.cell? ⟨w.heap.size, 6, none⟩ = some (.slice none 0 0) := by rw [cell_of_row _ _ _ _ _ _ R8]; rfl
  have y6 : w8.cell? ⟨w.heap.size + 1, 6, none⟩ = some (.slice none 0 0) := by rw [cell_of_row _ _ _ _ _ _ D8]; rfl
  have f6z : w8.frozen? ⟨w.heap.size + 1, 6, none⟩ = false := by simp [World.frozen?, D8]
  obtain ⟨w9, hw9⟩ : ∃ w9, nest7 w8 (w.heap.size + 1) (.int .i64 3) (.slice p1 2 q1) (.slice p2 0 q2) (.slice p3 0 q3) (.int .i64 0) (.int .i64 0) (.slice none 0 0) = w9 := ⟨_, rfl⟩
  have R9 : w9.heap[w.heap.size + 1]? = some (.cells #[.int .i64 3, .slice p1 2 q1, .slice p2 0 q2, .slice p3 0 q3, .int .i64 0, .int .i64 0, .slice none 0 0] 33 (0, 0)) := by rw [← hw9]; exact nest7_row D8
  have BW : Hid (But (w.heap.size + 1) w8 w9) := by show But _ _ _; rw [← hw9]; exact nest7_but _ _ _ _ _ _ _ _ _
  have R9H := Lib.hid R9
  unfold nest7 at hw9
  clear R7 R8 D7 D8 R9
  go_simp
  go_wp2_with fail
  refine wp_loop_rounds 1 ?_
  rw [rounds_succ]
  go_wp2_with fail
  have e0 : w9.cell? ⟨w.heap.size + 1, 0, none⟩ = some (.int .i64 3) := by rw [cell_of_row _ _ _ _ _ _ R9H.out]; rfl
  have e1 : w9.cell? ⟨w.heap.size + 1, 1, none⟩ = some (.slice p1 2 q1) := by rw [cell_of_row _ _ _ _ _ _ R9H.out]; rfl
  have e2 : w9.cell? ⟨w.heap.size + 1, 2, none⟩ = some (.slice p2 0 q2) := by rw [cell_of_row _ _ _ _ _ _ R9H.out]; rfl
  have e3 : w9.cell? ⟨w.heap.size + 1, 3, none⟩ = some (.slice p3 0 q3) := by rw [cell_of_row _ _ _ _ _ _ R9H.out]; rfl
  have e4 : w9.cell? ⟨w.heap.size + 1, 4, none⟩ = some (.int .i64 0) := by rw [cell_of_row _ _ _ _ _ _ R9H.out]; rfl
  have e5 : w9.cell? ⟨w.heap.size + 1, 5, none⟩ = some (.int .i64 0) := by rw [cell_of_row _ _ _ _ _ _ R9H.out]; rfl
  have e6 : w9.cell? ⟨w.heap.size + 1, 6, none⟩ = some (.slice none 0 0) := by rw [cell_of_row _ _ _ _ _ _ R9H.out]; rfl
  refine bodyPost_ret (v := .agg #[.int .i64 3, .slice p1 2 q1, .slice p2 0 q2, .slice p3 0 q3, .int .i64 0, .int .i64 0, .slice none 0 0]) (by simp [results, Tryz.results101, go_sem, e0, e1, e2, e3, e4, e5, e6]) rfl ?_
  have k1 := BU.out.kpx (t := 33) ⟨_, R4H.out⟩
  have k2 := BV.out.kpx (t := 33) ⟨_, R7H.out⟩
  have k3 := BW.out.kpx (t := 33) ⟨_, D8H.out⟩
  have in3 : ∀ {l : List Int} {v : Value}, InV w4 l v → InV w9 l v := fun h => ((h.kpx k1 (by decide)).kpx k2 (by decide)).kpx k3 (by decide)
  have q4 : Below w.heap.size w w4 := over B1.out B4.out
  have q7 := BU.out.below (Nat.le_refl _) q4.size q4
  have q8 := BV.out.below (Nat.le_refl _) q7.size q7
  exact ⟨_, _, _, rfl, ⟨in3 X1.out, in3 X2.out, in3 X3.out, TuV.nil _⟩, BW.out.below (by omega) q8.size q8⟩
end Go.Proofs.YteiohgiecpibhaaGreat
