/- clone of a constraint, post. -/
import Derived.Test.YteiohgiecpibhaaGreatWst
import Derived.Test.YteiohgiecpibhaaGreatMI
import Derived.RangeFuncBox
set_option linter.unusedVariables false
set_option linter.unusedSimpArgs false
set_option maxRecDepth 100000
set_option maxHeartbeats 4000000
namespace Go.Proofs.YteiohgiecpibhaaGreat
open Go.RowKit Fdm

theorem own_in {w : World} {b : Nat} {l : List Int} {v : Value} {n : Nat} (h : OwP (fun _ => True) w b 3 1 v n (l.map (Value.int .i64))) (hn : l.length = n) (hl : n ≤ 1000000) : ∃ a c, v = .slice a n c ∧ InV w l v := by
  subst hn
  rcases h.own.2 with ⟨rfl, h0⟩ | ⟨g, cap, cur, rfl, hb, hg, hnc, hcm, hcs, htake⟩
  · have : l = [] := List.length_eq_zero_iff.1 h0
    subst this
    exact ⟨_, _, rfl, ⟨none, 0, rfl, Nat.le_refl _, by omega, fun h => absurd rfl h⟩⟩
  · refine ⟨_, _, rfl, ⟨_, _, rfl, hnc, by unfold maxLen at hcm; omega, fun _ => ⟨g, 0, rfl, ⟨_, hg⟩, fun i hi => ?_⟩⟩⟩
    have := h.own.cellAt (g := g) (j := i) (by simpa using hi)
    simpa [hi] using this
theorem row71 {w : World} {g : Nat} {c0 c1 c2 c3 c4 c5 c6 x : Value} {t : Nat} (h : w.heap[g]? = some (.cells #[c0, c1, c2, c3, c4, c5, c6] t (0, 0))) : (w.setCell ⟨g, 1, none⟩ x).heap[g]? = some (.cells #[c0, x, c2, c3, c4, c5, c6] t (0, 0)) := by
  simp [World.setCell, Array.getElem?_modify, h]
theorem row72 {w : World} {g : Nat} {c0 c1 c2 c3 c4 c5 c6 x : Value} {t : Nat} (h : w.heap[g]? = some (.cells #[c0, c1, c2, c3, c4, c5, c6] t (0, 0))) : (w.setCell ⟨g, 2, none⟩ x).heap[g]? = some (.cells #[c0, c1, x, c3, c4, c5, c6] t (0, 0)) := by
  simp [World.setCell, Array.getElem?_modify, h]
theorem row73 {w : World} {g : Nat} {c0 c1 c2 c3 c4 c5 c6 x : Value} {t : Nat} (h : w.heap[g]? = some (.cells #[c0, c1, c2, c3, c4, c5, c6] t (0, 0))) : (w.setCell ⟨g, 3, none⟩ x).heap[g]? = some (.cells #[c0, c1, c2, x, c4, c5, c6] t (0, 0)) := by
  simp [World.setCell, Array.getElem?_modify, h]
theorem row76 {w : World} {g : Nat} {c0 c1 c2 c3 c4 c5 c6 x : Value} {t : Nat} (h : w.heap[g]? = some (.cells #[c0, c1, c2, c3, c4, c5, c6] t (0, 0))) : (w.setCell ⟨g, 6, none⟩ x).heap[g]? = some (.cells #[c0, c1, c2, c3, c4, c5, x] t (0, 0)) := by
  simp [World.setCell, Array.getElem?_modify, h]
def nest7 (w : World) (g : Nat) (x0 x1 x2 x3 x4 x5 x6 : Value) : World := ((((((w.setCell ⟨g, 0, none⟩ x0).setCell ⟨g, 1, none⟩ x1).setCell ⟨g, 2, none⟩ x2).setCell ⟨g, 3, none⟩ x3).setCell ⟨g, 4, none⟩ x4).setCell ⟨g, 5, none⟩ x5).setCell ⟨g, 6, none⟩ x6
theorem nest7_row {w : World} {g : Nat} {c0 c1 c2 c3 c4 c5 c6 x0 x1 x2 x3 x4 x5 x6 : Value} {t : Nat} (h : w.heap[g]? = some (.cells #[c0, c1, c2, c3, c4, c5, c6] t (0, 0))) : (nest7 w g x0 x1 x2 x3 x4 x5 x6).heap[g]? = some (.cells #[x0, x1, x2, x3, x4, x5, x6] t (0, 0)) := by
  simp [nest7, World.setCell, Array.getElem?_modify, h]
theorem nest7_but (w : World) (g : Nat) (x0 x1 x2 x3 x4 x5 x6 : Value) : But g w (nest7 w g x0 x1 x2 x3 x4 x5 x6) :=
  (((((((But.setCell _ _ _ _).trans (But.setCell _ _ _ _)).trans (But.setCell _ _ _ _)).trans (But.setCell _ _ _ _)).trans (But.setCell _ _ _ _)).trans (But.setCell _ _ _ _)).trans (But.setCell _ _ _ _))
theorem clone3 {g : Nat} {w : World} (h0 : w.cell? ⟨g, 0, none⟩ = some (.int .i64 0)) (h1 : w.cell? ⟨g, 1, none⟩ = some (.int .i64 1)) : Calls Tryz.prog 101 #[exV g] w fun e w' => ∃ x1 x2 x3, e = .returned (.agg #[.int .i64 3, x1, x2, x3, .int .i64 0, .int .i64 0, .slice none 0 0]) ∧ Kc w' exC x1 x2 x3 (.slice none 0 0) ∧ Below w.heap.size w w' := by
  obtain ⟨w1, hw1⟩ : ∃ w1, ((w.alloc (.cells #[.int .i64 3, .slice (some ⟨g, 0, none⟩) 2 2, .slice none 0 0, .slice none 0 0, .int .i64 0, .int .i64 0, .slice none 0 0] 33)).alloc (.cells #[.int .i64 0, .slice none 0 0, .slice none 0 0, .slice none 0 0, .int .i64 0, .int .i64 0, .slice none 0 0] 33)) = w1 := ⟨_, rfl⟩
  have AL := alloc2 w (.cells #[.int .i64 3, .slice (some ⟨g, 0, none⟩) 2 2, .slice none 0 0, .slice none 0 0, .int .i64 0, .int .i64 0, .slice none 0 0] 33) (.cells #[.int .i64 0, .slice none 0 0, .slice none 0 0, .slice none 0 0, .int .i64 0, .int .i64 0, .slice none 0 0] 33)
  rw [hw1] at AL
  obtain ⟨a0, a1, a2, a3⟩ := AL
  have I0 := Lib.hid a0; have I1 := Lib.hid a1; have B1 := Lib.hid a2; have Z1 := Lib.hid a3
  have H0 := Lib.hid (cell_later a2 (Nat.le_refl _) h0); have H1 := Lib.hid (cell_later a2 (Nat.le_refl _) h1)
  clear a0 a1 a2 a3 h0 h1
  unfold exV
  go_enter Tryz.func101, Tryz.ntmps101
  go_upto_region 1 with fail
  try rw [hw1]
  clear hw1
  have c1 : w1.cell? ⟨w.heap.size, 1, none⟩ = some (.slice (some ⟨g, 0, none⟩) 2 2) := by rw [cell_of_row _ _ _ _ _ _ I0.out]; rfl
  have c2 : w1.cell? ⟨w.heap.size, 2, none⟩ = some (.slice none 0 0) := by rw [cell_of_row _ _ _ _ _ _ I0.out]; rfl
  have c3 : w1.cell? ⟨w.heap.size, 3, none⟩ = some (.slice none 0 0) := by rw [cell_of_row _ _ _ _ _ _ I0.out]; rfl
  have g0 := H0.out; have g1 := H1.out
  refine Rg.s0 10 [] fun W hW => ?_
  refine Rg.t 0 ?_
  refine Rg.t 1 ?_
  refine Rg.t 3 ?_
  refine Rg.t 4 ?_
  refine Rg.t 6 ?_
  refine Rg.t 7 ?_
  refine Rg.c1 2 fun K' hK => ?_
  (try simp only [zA, zB, zC])
  go_simp
  refine (clone63 (vs := [.int .i64 0, .int .i64 1]) (n := 2) rfl (by simp [Value.oneCell']) (fun _ => ⟨g, 0, rfl, fun j u hu => ?_⟩) (by omega)).mono ?_
  · match j, hu with
    | 0, hu => rw [← hu]; exact cell_later hW (Nat.le_refl _) g0
    | 1, hu => rw [← hu]; exact cell_later hW (Nat.le_refl _) g1
  rintro e w2 ⟨v1, rfl, o1, b2⟩
  obtain ⟨p1, q1, rfl, V1⟩ := own_in (l := [0, 1]) o1 rfl (by omega)
  refine Rg.e1 hK (over hW b2) ?_
  clear hK K' o1
  refine Rg.t 9 ?_
  refine Rg.c1 5 fun K' hK => ?_
  (try simp only [zA, zB, zC])
  go_simp
  refine (clone63 (vs := []) (n := 0) rfl (fun _ h => absurd h (by simp)) (fun h => absurd rfl h) (by omega)).mono ?_
  rintro e w3 ⟨v2, rfl, o2, b3⟩
  obtain ⟨p2, q2, rfl, V2⟩ := own_in (l := []) o2 rfl (by omega)
  refine Rg.e1 hK (over (over hW b2) b3) ?_
  clear hK K' o2
  refine Rg.c1 8 fun K' hK => ?_
  (try simp only [zA, zB, zC])
  go_simp
  refine (clone63 (vs := []) (n := 0) rfl (fun _ h => absurd h (by simp)) (fun h => absurd rfl h) (by omega)).mono ?_
  rintro e w4 ⟨v3, rfl, o3, b4⟩
  obtain ⟨p3, q3, rfl, V3⟩ := own_in (l := []) o3 rfl (by omega)
  have B4 : Hid (Below w1.heap.size w1 w4) := over (over (over hW b2) b3) b4
  refine Rg.e1 hK B4.out ?_
  clear hK K' o3
  have X1 := Lib.hid (V1.kp ((KpT.of_below b3).trans (KpT.of_below b4)))
  have X2 := Lib.hid (V2.kp (KpT.of_below b4))
  have X3 := Lib.hid V3
  have R4 : w4.heap[w.heap.size]? = some (.cells #[.int .i64 3, .slice (some ⟨g, 0, none⟩) 2 2, .slice none 0 0, .slice none 0 0, .int .i64 0, .int .i64 0, .slice none 0 0] 33 (0, 0)) := (B4.out.block w.heap.size (by have := Z1.out; omega)).trans I0.out
  have R4H := Lib.hid R4
  have D4 : Hid (w4.heap[w.heap.size + 1]? = some (.cells #[.int .i64 0, .slice none 0 0, .slice none 0 0, .slice none 0 0, .int .i64 0, .int .i64 0, .slice none 0 0] 33 (0, 0))) := (B4.out.block _ (by have := Z1.out; omega)).trans I1.out
  clear V1 V2 V3 b2 b3 b4 hW c1 c2 c3 g0 g1
  obtain ⟨w5, hw5⟩ : ∃ w5, w4.setCell ⟨w.heap.size, 1, none⟩ (.slice p1 2 q1) = w5 := ⟨_, rfl⟩
  obtain ⟨w6, hw6⟩ : ∃ w6, w5.setCell ⟨w.heap.size, 2, none⟩ (.slice p2 0 q2) = w6 := ⟨_, rfl⟩
  obtain ⟨w7, hw7⟩ : ∃ w7, w6.setCell ⟨w.heap.size, 3, none⟩ (.slice p3 0 q3) = w7 := ⟨_, rfl⟩
  have R5 := row71 (x := .slice p1 2 q1) R4
  rw [hw5] at R5
  have R6 := row72 (x := .slice p2 0 q2) R5
  rw [hw6] at R6
  have R7 := row73 (x := .slice p3 0 q3) R6
  rw [hw7] at R7
  have BU : Hid (But w.heap.size w4 w7) := by
    show But _ _ _
    rw [← hw7, ← hw6, ← hw5]
    exact ((But.setCell _ _ _ _).trans (But.setCell _ _ _ _)).trans (But.setCell _ _ _ _)
  have z4 : w4.cell? ⟨w.heap.size, 1, none⟩ = some (.slice (some ⟨g, 0, none⟩) 2 2) := by rw [cell_of_row _ _ _ _ _ _ R4]; rfl
  have z5 : w5.cell? ⟨w.heap.size, 2, none⟩ = some (.slice none 0 0) := by rw [cell_of_row _ _ _ _ _ _ R5]; rfl
  have z6 : w6.cell? ⟨w.heap.size, 3, none⟩ = some (.slice none 0 0) := by rw [cell_of_row _ _ _ _ _ _ R6]; rfl
  have fz4 : w4.frozen? ⟨w.heap.size, 1, none⟩ = false := by simp [World.frozen?, R4]
  have fz5 : w5.frozen? ⟨w.heap.size, 2, none⟩ = false := by simp [World.frozen?, R5]
  have fz6 : w6.frozen? ⟨w.heap.size, 3, none⟩ = false := by simp [World.frozen?, R6]
  have R7H := Lib.hid R7
  clear R4 R5 R6 R7
  refine fun _ _ _ => Rg.wt 10 rfl fun K' hK => ?_
  (try simp only [zA, zB, zC])
  go_simp
  try rw [hw5]
  refine hK.out _ _ ?_
  clear hK K'
  try simp only [Act.put, zA, zB, zC, zD, zE, zF]
  refine Rg.wt 11 rfl fun K' hK => ?_
  (try simp only [zA, zB, zC])
  go_simp
  refine hK.out _ _ ?_
  clear hK K'
  try simp only [Act.put, zA, zB, zC, zD, zE, zF]
  refine Rg.wt 12 rfl fun K' hK => ?_
  (try simp only [zA, zB, zC])
  go_simp
  try rw [hw6]
  refine hK.out _ _ ?_
  clear hK K'
  try simp only [Act.put, zA, zB, zC, zD, zE, zF]
  refine Rg.wt 13 rfl fun K' hK => ?_
  (try simp only [zA, zB, zC])
  go_simp
  refine hK.out _ _ ?_
  clear hK K'
  try simp only [Act.put, zA, zB, zC, zD, zE, zF]
  refine Rg.wt 14 rfl fun K' hK => ?_
  (try simp only [zA, zB, zC])
  go_simp
  try rw [hw7]
  refine hK.out _ _ ?_
  clear hK K' hw5 hw6 hw7 z4 z5 z6 fz4 fz5 fz6
  try simp only [Act.put, zA, zB, zC, zD, zE, zF]
  refine Rg.wpD_done (by kernel_rfl) ?_
  obtain ⟨w8, hw8⟩ : ∃ w8, w7.setCell ⟨w.heap.size, 6, none⟩ (.slice none 0 0) = w8 := ⟨_, rfl⟩
  have R8 := row76 (x := .slice none 0 0) R7H.out
  rw [hw8] at R8
  have R8H := Lib.hid R8
  have BV : Hid (But w.heap.size w7 w8) := by show But _ _ _; rw [← hw8]; exact But.setCell _ _ _ _
  have D7 : w7.heap[w.heap.size + 1]? = some (.cells #[.int .i64 0, .slice none 0 0, .slice none 0 0, .slice none 0 0, .int .i64 0, .int .i64 0, .slice none 0 0] 33 (0, 0)) := (BU.out.block _ (by have := (Array.getElem?_eq_some_iff.1 D4.out).1; exact this) (by omega)).trans D4.out
  have D8 : w8.heap[w.heap.size + 1]? = some (.cells #[.int .i64 0, .slice none 0 0, .slice none 0 0, .slice none 0 0, .int .i64 0, .int .i64 0, .slice none 0 0] 33 (0, 0)) := (BV.out.block _ (Array.getElem?_eq_some_iff.1 D7).1 (by omega)).trans D7
  have D8H := Lib.hid D8
  have R7 := R7H.out
  have u6 : w7.cell? ⟨w.heap.size, 6, none⟩ = some (.slice none 0 0) := by rw [cell_of_row _ _ _ _ _ _ R7]; rfl
  have fz7 : w7.frozen? ⟨w.heap.size, 6, none⟩ = false := by simp [World.frozen?, R7]
  have v0 : w8.cell? ⟨w.heap.size, 0, none⟩ = some (.int .i64 3) := by rw [cell_of_row _ _ _ _ _ _ R8]; rfl
  have y0 : w8.cell? ⟨w.heap.size + 1, 0, none⟩ = some (.int .i64 0) := by rw [cell_of_row _ _ _ _ _ _ D8]; rfl
  have f0z : w8.frozen? ⟨w.heap.size + 1, 0, none⟩ = false := by simp [World.frozen?, D8]
  have v1 : w8.cell? ⟨w.heap.size, 1, none⟩ = some (.slice p1 2 q1) := by rw [cell_of_row _ _ _ _ _ _ R8]; rfl
  have y1 : w8.cell? ⟨w.heap.size + 1, 1, none⟩ = some (.slice none 0 0) := by rw [cell_of_row _ _ _ _ _ _ D8]; rfl
  have f1z : w8.frozen? ⟨w.heap.size + 1, 1, none⟩ = false := by simp [World.frozen?, D8]
  have v2 : w8.cell? ⟨w.heap.size, 2, none⟩ = some (.slice p2 0 q2) := by rw [cell_of_row _ _ _ _ _ _ R8]; rfl
  have y2 : w8.cell? ⟨w.heap.size + 1, 2, none⟩ = some (.slice none 0 0) := by rw [cell_of_row _ _ _ _ _ _ D8]; rfl
  have f2z : w8.frozen? ⟨w.heap.size + 1, 2, none⟩ = false := by simp [World.frozen?, D8]
  have v3 : w8.cell? ⟨w.heap.size, 3, none⟩ = some (.slice p3 0 q3) := by rw [cell_of_row _ _ _ _ _ _ R8]; rfl
  have y3 : w8.cell? ⟨w.heap.size + 1, 3, none⟩ = some (.slice none 0 0) := by rw [cell_of_row _ _ _ _ _ _ D8]; rfl
  have f3z : w8.frozen? ⟨w.heap.size + 1, 3, none⟩ = false := by simp [World.frozen?, D8]
  have v4 : w8.cell? ⟨w.heap.size, 4, none⟩ = some (.int .i64 0) := by rw [cell_of_row _ _ _ _ _ _ R8]; rfl
  have y4 : w8.cell? ⟨w.heap.size + 1, 4, none⟩ = some (.int .i64 0) := by rw [cell_of_row _ _ _ _ _ _ D8]; rfl
  have f4z : w8.frozen? ⟨w.heap.size + 1, 4, none⟩ = false := by simp [World.frozen?, D8]
  have v5 : w8.cell? ⟨w.heap.size, 5, none⟩ = some (.int .i64 0) := by rw [cell_of_row _ _ _ _ _ _ R8]; rfl
  have y5 : w8.cell? ⟨w.heap.size + 1, 5, none⟩ = some (.int .i64 0) := by rw [cell_of_row _ _ _ _ _ _ D8]; rfl
  have f5z : w8.frozen? ⟨w.heap.size + 1, 5, none⟩ = false := by simp [World.frozen?, D8]
  have v6 : w8.cell? ⟨w.heap.size, 6, none⟩ = some (.slice none 0 0) := by rw [cell_of_row _ _ _ _ _ _ R8]; rfl
  have y6 : w8.cell? ⟨w.heap.size + 1, 6, none⟩ = some (.slice none 0 0) := by rw [cell_of_row _ _ _ _ _ _ D8]; rfl
  have f6z : w8.frozen? ⟨w.heap.size + 1, 6, none⟩ = false := by simp [World.frozen?, D8]
  obtain ⟨w9, hw9⟩ : ∃ w9, nest7 w8 (w.heap.size + 1) (.int .i64 3) (.slice p1 2 q1) (.slice p2 0 q2) (.slice p3 0 q3) (.int .i64 0) (.int .i64 0) (.slice none 0 0) = w9 := ⟨_, rfl⟩
  have R9 : w9.heap[w.heap.size + 1]? = some (.cells #[.int .i64 3, .slice p1 2 q1, .slice p2 0 q2, .slice p3 0 q3, .int .i64 0, .int .i64 0, .slice none 0 0] 33 (0, 0)) := by rw [← hw9]; exact nest7_row D8
  have BW : Hid (But (w.heap.size + 1) w8 w9) := by show But _ _ _; rw [← hw9]; exact nest7_but _ _ _ _ _ _ _ _ _
  have R9H := Lib.hid R9
  unfold nest7 at hw9
  clear R7 R8 D7 D8 R9
  go_simp
  go_wp2_with fail
  refine wp_loop_rounds 1 ?_
  rw [rounds_succ]
  go_wp2_with fail
  have e0 : w9.cell? ⟨w.heap.size + 1, 0, none⟩ = some (.int .i64 3) := by rw [cell_of_row _ _ _ _ _ _ R9H.out]; rfl
  have e1 : w9.cell? ⟨w.heap.size + 1, 1, none⟩ = some (.slice p1 2 q1) := by rw [cell_of_row _ _ _ _ _ _ R9H.out]; rfl
  have e2 : w9.cell? ⟨w.heap.size + 1, 2, none⟩ = some (.slice p2 0 q2) := by rw [cell_of_row _ _ _ _ _ _ R9H.out]; rfl
  have e3 : w9.cell? ⟨w.heap.size + 1, 3, none⟩ = some (.slice p3 0 q3) := by rw [cell_of_row _ _ _ _ _ _ R9H.out]; rfl
  have e4 : w9.cell? ⟨w.heap.size + 1, 4, none⟩ = some (.int .i64 0) := by rw [cell_of_row _ _ _ _ _ _ R9H.out]; rfl
  have e5 : w9.cell? ⟨w.heap.size + 1, 5, none⟩ = some (.int .i64 0) := by rw [cell_of_row _ _ _ _ _ _ R9H.out]; rfl
  have e6 : w9.cell? ⟨w.heap.size + 1, 6, none⟩ = some (.slice none 0 0) := by rw [cell_of_row _ _ _ _ _ _ R9H.out]; rfl
  refine bodyPost_ret (v := .agg #[.int .i64 3, .slice p1 2 q1, .slice p2 0 q2, .slice p3 0 q3, .int .i64 0, .int .i64 0, .slice none 0 0]) (by simp [results, Tryz.results101, go_sem, e0, e1, e2, e3, e4, e5, e6]) rfl ?_
  have k1 := BU.out.kpx (t := 33) ⟨_, R4H.out⟩
  have k2 := BV.out.kpx (t := 33) ⟨_, R7H.out⟩
  have k3 := BW.out.kpx (t := 33) ⟨_, D8H.out⟩
  have in3 : ∀ {l : List Int} {v : Value}, InV w4 l v → InV w9 l v := fun h => ((h.kpx k1 (by decide)).kpx k2 (by decide)).kpx k3 (by decide)
  have q4 : Below w.heap.size w w4 := over B1.out B4.out
  have q7 := BU.out.below (Nat.le_refl _) q4.size q4
  have q8 := BV.out.below (Nat.le_refl _) q7.size q7
  exact ⟨_, _, _, rfl, ⟨in3 X1.out, in3 X2.out, in3 X3.out, TuV.nil _⟩, BW.out.below (by omega) q8.size q8⟩
end Go.Proofs.YteiohgiecpibhaaGreat
set_option linter.unusedVariables false
set_option linter.unusedSimpArgs false
set_option maxRecDepth 100000
set_option maxHeartbeats 4000000
namespace Go.Proofs.YteiohgiecpibhaaGreat
open Go.RowKit Fdm

theorem wp_append_grows {P : Program} (w : World) {o : Oper} {a : Act} {K : Act → World → Prop} {Q : Exit → Act → World → Prop}
    (s x : Operand) (t : TypeId) (hop : o.op = Op.call { callee := Callee.builtin Builtin.append, args := #[s, x], argTypes := #[t, t] })
    (e : TypeId) (i : TypeInfo) (z : Value) (size bytes : Nat) (h1 : P.underlying t = some (.slice e)) (h2 : P.info? e = some i) (h3 : i.zero = some z) (h4 : i.size = size) (h5 : i.bytes = bytes) (h6 : z.cells.size = size) (h7 : 0 < size)
    (ao : Option Addr) (n cap : Nat) (olds : List Value) (hs : a.eval s = .slice ao n cap) (hnone : ao = none → n = 0 ∧ cap = 0) (hlo : olds.length = n * size) (holds : ∀ b, ao = some b → ∀ j u, olds[j]? = some u → w.cell? (b.add j) = some u)
    (ad : Addr) (m c : Nat) (news : List Value) (hx : a.eval x = .slice (some ad) m c) (hn : news.length = m * size) (hc : ∀ j u, news[j]? = some u → w.cell? (ad.add j) = some u) (h1c : ∀ u ∈ news, u.oneCell' = true)
    (hfull : cap < n + m) (b1 : n + m ≤ maxLen) (b2 : (n + m) * bytes ≤ 140737488355328)
    (hK : ∀ v' w', w'.ownsRow w.heap.size e size v' (n + m) (olds ++ news) → w.grownBy w' none → K (a.put o.dst v') w') :
    Oper.wp P o a w K Q := by
  cases ao with
  | some b =>
    obtain ⟨v', w', hrun, r1, r2⟩ := run_append_arg_grows (P := P) w t o.type e i z size bytes h1 h2 h3 h4 h5 h6 h7 b n cap olds hlo (holds b rfl) ad m c news hn hc hfull b1 b2
    unfold Oper.wp
    simp [execOp, hop, resolve, invoke, builtin, hs, hx, hrun, Result.andThen]
    exact hK v' w' r1 r2
  | none =>
    obtain ⟨rfl, rfl⟩ := hnone rfl
    obtain rfl : olds = [] := List.eq_nil_of_length_eq_zero (by simpa using hlo)
    obtain ⟨v', w', hrun, r1, r2, _⟩ := run_append_own (P := P) w w.heap.size t o.type e i z size bytes h1 h2 h3 h4 h5 h6 h7 (.slice none 0 0) 0 [] (World.ownsRow_nil w _ e size) ad m c news hn hc h1c b1 b2 (Nat.le_refl _)
    unfold Oper.wp
    simp [execOp, hop, resolve, invoke, builtin, hs, hx, hrun, Result.andThen]
    exact hK v' w' r1 r2
theorem info33 : (Tryz.prog.info? 33).map (fun i => (i.zero, i.size, i.bytes)) = some (some (.agg #[.int .i64 0, .slice none 0 0, .slice none 0 0, .slice none 0 0, .int .i64 0, .int .i64 0, .slice none 0 0]), 7, 120) := by kernel_rfl
theorem own_ps {w : World} {b : Nat} {x1 x2 x3 : Value} {ga pc : Nat} (h : w.ownsRow b 33 7 (.slice (some ⟨ga, 0, none⟩) 1 pc) 1 [.int .i64 3, x1, x2, x3, .int .i64 0, .int .i64 0, .slice none 0 0]) (hk : Kc w exC x1 x2 x3 (.slice none 0 0)) : PsV w exP (.slice (some ⟨ga, 0, none⟩) 1 pc) ∧ b ≤ ga := by
  have cs : ∀ j, j < 7 → w.cell? ⟨ga, 0 + j, none⟩ = ([.int .i64 3, x1, x2, x3, .int .i64 0, .int .i64 0, .slice none 0 0] : List Value)[j]? := fun j hj => by
    have := h.cellAt (g := ga) (j := j) (by simpa using hj)
    simpa using this
  rcases h.2 with ⟨e, _⟩ | ⟨g, cap, cur, e, hb, hg, hnc, hcm, hcs, htake⟩
  · cases e
  · simp only [Value.slice.injEq, Option.some.injEq, Addr.mk.injEq] at e
    obtain ⟨⟨rfl, _, _⟩, _, rfl⟩ := e
    refine ⟨⟨_, _, rfl, hnc, by unfold maxLen at hcm; omega, fun _ => ⟨ga, 0, rfl, ⟨_, hg⟩, fun i hi => ?_⟩⟩, hb⟩
    obtain rfl : i = 0 := by simpa [exP] using hi
    exact ⟨x1, x2, x3, .slice none 0 0, cs 0 (by omega), cs 1 (by omega), cs 2 (by omega), cs 3 (by omega), cs 4 (by omega), cs 5 (by omega), cs 6 (by omega), hk⟩
/-- What the posting answers. -/
def PoPost (w : World) (n : Nat) (r : List Dm × Bool) (e : Ending) (w' : World) : Prop := (∃ a c pa pc, e = .returned (.tuple #[.agg #[.slice a n c, .slice pa 1 pc], .bool r.2]) ∧ n ≤ c ∧ c ≤ 9223372036854775807 ∧ PsV w' exP (.slice pa 1 pc) ∧ (r.2 = true → DsK w' r.1 a)) ∧ Below w.heap.size w w'
theorem post3 {w : World} {D : List Dm} {a pa : Option Addr} {n c0 pc f g : Nat} {r : List Dm × Bool} (h : DsK w D a) (hne : D ≠ []) (hn : D.length = n) (hc : n ≤ c0) (hc2 : c0 ≤ 9223372036854775807) (hp2 : pc ≤ 9223372036854775807) (h1000 : n ≤ 1000) (h2 : 2 ≤ n)
    (h0 : w.cell? ⟨g, 0, none⟩ = some (.int .i64 0)) (h1 : w.cell? ⟨g, 1, none⟩ = some (.int .i64 1)) (hst : stF exRu exG exP f D [] 0 = some r) (hR : ∀ D, exG exC D = true → RuOk exRu exC D) :
    Calls Tryz.prog 69 #[.agg #[.slice a n c0, .slice pa 0 pc], exV g] w (PoPost w n r) := by
  obtain ⟨R, hRr⟩ : ∃ R : Ending → World → Prop, R = PoPost w n r := ⟨_, rfl⟩
  rw [← hRr]
  have HR := Lib.hid hRr
  have AL := alloc3 w (.cells #[.slice a n c0, .slice pa 0 pc] 86) (.cells #[.int .i64 3, .slice (some ⟨g, 0, none⟩) 2 2, .slice none 0 0, .slice none 0 0, .int .i64 0, .int .i64 0, .slice none 0 0] 33) (.cells #[.slice none 0 0, .slice none 0 0] 86)
  obtain ⟨w1, hw1⟩ : ∃ w1, ((w.alloc (.cells #[.slice a n c0, .slice pa 0 pc] 86)).alloc (.cells #[.int .i64 3, .slice (some ⟨g, 0, none⟩) 2 2, .slice none 0 0, .slice none 0 0, .int .i64 0, .int .i64 0, .slice none 0 0] 33)).alloc (.cells #[.slice none 0 0, .slice none 0 0] 86) = w1 := ⟨_, rfl⟩
  rw [hw1] at AL
  obtain ⟨a0, a1, a2, a3, a4⟩ := AL
  have I0 := Lib.hid a0; have I1 := Lib.hid a1; have I2 := Lib.hid a2; have B1 := Lib.hid a3; have Z1 := Lib.hid a4
  have CO : Hid (Calls Tryz.prog 65 #[.agg #[.slice a n c0, .slice pa 0 pc]] w1 fun e w' => ∃ gd gc, e = .returned (.agg #[.slice (some ⟨gd, 0, none⟩) n gc, .slice pa 0 0]) ∧ n ≤ gc ∧ gc ≤ 9223372036854775807 ∧ DsG w' gd D ∧ w1.heap.size ≤ gd ∧ Below w1.heap.size w1 w') :=
    (copied_any (pa := pa) (pn := 0) (h.below a3).a hn hc hc2 (Nat.zero_le pc) hp2 h1000).mono (by
      rintro e w' ⟨v, rfl, ⟨a, c, rfl, l1, l2, k⟩, hb⟩
      obtain ⟨g', rfl, q1, q2⟩ := k hne
      exact ⟨g', c, by rw [hn], by rw [← hn]; exact l1, l2, q2, q1, hb⟩)
  have H0 := Lib.hid h0; have H1 := Lib.hid h1; have DN := Lib.hid hn; have ST := Lib.hid hst; have RU := Lib.hid hR; have NE := Lib.hid hne
  clear a0 a1 a2 a3 a4 h0 h1 h hn hst hR hRr hne
  unfold exV
  go_enter Tryz.func69, Tryz.ntmps69
  go_upto_region 1 with fail
  try rw [hw1]
  clear hw1
  have i0 := I0.out
  have b0 : w1.cell? ⟨w.heap.size, 0, none⟩ = some (.slice a n c0) := by rw [cell_of_row _ _ _ _ _ _ i0]; rfl
  have b1 : w1.cell? ⟨w.heap.size, 1, none⟩ = some (.slice pa 0 pc) := by rw [cell_of_row _ _ _ _ _ _ i0]; rfl
  clear i0
  go_upto_region 2 with (go_at_call 65; refine CO.out.mono ?_; rintro e w2 ⟨gd, gc, rfl, l1, l2, hv2, hgd, hb2⟩; have V2 := Lib.hid hv2; have B2 := Lib.hid hb2; clear hv2 hb2)
  obtain ⟨gs, hgs⟩ : ∃ gs, w2.heap.size = gs := ⟨_, rfl⟩
  obtain ⟨w3, hw3⟩ : ∃ w3, w2.alloc (.cells #[.slice (some ⟨gd, 0, none⟩) n gc, .slice pa 0 0] 86) = w3 := ⟨_, rfl⟩
  have J3 : Hid (w3.heap[gs]? = some (.cells #[.slice (some ⟨gd, 0, none⟩) n gc, .slice pa 0 0] 86 (0, 0))) := by show _; rw [← hw3, ← hgs]; exact heap_alloc_new _ _
  have B23 : Hid (Below w2.heap.size w2 w3) := by show _; rw [← hw3]; exact below_new _ _
  have Z3 : Hid (w3.heap.size = gs + 1) := Lib.hid (by rw [← hw3, ← hgs]; simp)
  have GS := Lib.hid hgs
  rw [hw3, hgs]
  clear hw3 hgs
  have B13 : Hid (Below w1.heap.size w1 w3) := over B2.out B23.out
  have j3 := J3.out
  have s0 : w3.cell? ⟨gs, 0, none⟩ = some (.slice (some ⟨gd, 0, none⟩) n gc) := by rw [cell_of_row _ _ _ _ _ _ j3]; rfl
  have s1 : w3.cell? ⟨gs, 1, none⟩ = some (.slice pa 0 0) := by rw [cell_of_row _ _ _ _ _ _ j3]; rfl
  have i1 : w3.heap[w.heap.size + 1]? = some (.cells #[.int .i64 3, .slice (some ⟨g, 0, none⟩) 2 2, .slice none 0 0, .slice none 0 0, .int .i64 0, .int .i64 0, .slice none 0 0] 33 (0, 0)) := (B13.out.block _ (by have := Z1.out; omega)).trans I1.out
  have k0 : w3.cell? ⟨w.heap.size + 1, 0, none⟩ = some (.int .i64 3) := by rw [cell_of_row _ _ _ _ _ _ i1]; rfl
  have k1 : w3.cell? ⟨w.heap.size + 1, 1, none⟩ = some (.slice (some ⟨g, 0, none⟩) 2 2) := by rw [cell_of_row _ _ _ _ _ _ i1]; rfl
  have k2 : w3.cell? ⟨w.heap.size + 1, 2, none⟩ = some (.slice none 0 0) := by rw [cell_of_row _ _ _ _ _ _ i1]; rfl
  have k3 : w3.cell? ⟨w.heap.size + 1, 3, none⟩ = some (.slice none 0 0) := by rw [cell_of_row _ _ _ _ _ _ i1]; rfl
  have k4 : w3.cell? ⟨w.heap.size + 1, 4, none⟩ = some (.int .i64 0) := by rw [cell_of_row _ _ _ _ _ _ i1]; rfl
  have k5 : w3.cell? ⟨w.heap.size + 1, 5, none⟩ = some (.int .i64 0) := by rw [cell_of_row _ _ _ _ _ _ i1]; rfl
  have k6 : w3.cell? ⟨w.heap.size + 1, 6, none⟩ = some (.slice none 0 0) := by rw [cell_of_row _ _ _ _ _ _ i1]; rfl
  have g0 := cell_later (over B1.out B13.out) (Nat.le_refl _) H0.out
  have g1 := cell_later (over B1.out B13.out) (Nat.le_refl _) H1.out
  clear i1 j3 b0 b1
  refine Rg.s0 7 [] fun W hW => ?_
  refine Rg.t 0 ?_
  refine Rg.t 1 ?_
  refine Rg.t 2 ?_
  refine Rg.c1 3 fun K' hK => ?_
  (try simp only [zA, zB, zC])
  go_simp
  refine (clone3 (g := g) (cell_later hW (Nat.le_refl _) g0) (cell_later hW (Nat.le_refl _) g1)).mono ?_
  rintro e w4 ⟨x1, x2, x3, rfl, hk, b4⟩
  obtain ⟨p1, n1, q1, rfl⟩ := hk.vars.sh
  obtain ⟨p2, n2, q2, rfl⟩ := hk.coefs.sh
  obtain ⟨p3, n3, q3, rfl⟩ := hk.needs.sh
  refine Rg.e1 hK (over hW b4) ?_
  clear hK K'
  refine Rg.c1 4 fun K' hK => ?_
  (try simp only [zA, zB, zC])
  go_simp
  obtain ⟨w5, hw5⟩ : ∃ w5, w4.alloc (.cells #[.int .i64 3, .slice p1 n1 q1, .slice p2 n2 q2, .slice p3 n3 q3, .int .i64 0, .int .i64 0, .slice none 0 0] 33) = w5 := ⟨_, rfl⟩
  have b45 : Below w4.heap.size w4 w5 := by rw [← hw5]; exact below_new _ _
  have R5 : w5.heap[w4.heap.size]? = some (.cells #[.int .i64 3, .slice p1 n1 q1, .slice p2 n2 q2, .slice p3 n3 q3, .int .i64 0, .int .i64 0, .slice none 0 0] 33 (0, 0)) := by rw [← hw5]; exact heap_alloc_new _ _
  have B5 : Below w3.heap.size w3 w5 := over (over hW b4) b45
  rw [hw5]
  clear hw5
  refine Rg.e1 hK B5 ?_
  clear hK K'
  obtain ⟨i33, hi33, hz0, hz1, hz2⟩ := info_parts info33
  refine Rg.c1 5 fun K' hK => ?_
  refine wp_append_grows w5 (.tmp 10) (.tmp 13) 29 rfl 33 i33 _ 7 120 Tryz.underlying29 hi33 hz0 hz1 hz2 rfl (by omega) pa 0 0 [] rfl (fun _ => ⟨rfl, rfl⟩) rfl (fun _ _ _ _ h => absurd h (by simp)) ⟨w4.heap.size, 0, none⟩ 1 1 [.int .i64 3, .slice p1 n1 q1, .slice p2 n2 q2, .slice p3 n3 q3, .int .i64 0, .int .i64 0, .slice none 0 0] rfl rfl (fun j u hu => ?_) (by simp [Value.oneCell']) (by omega) (by unfold maxLen; omega) (by omega) fun v6 w6 o6 g6 => ?_
  · rw [add_at, Nat.zero_add, cell_of_row _ _ j _ _ _ R5]
    simpa using hu
  have b6 := below_grown g6
  obtain ⟨gp, pc6, rfl⟩ := ownsRow_succ o6
  refine Rg.e1 hK (over B5 b6) ?_
  clear hK K'
  refine Rg.t 6 ?_
  have PS6 := Lib.hid (own_ps o6 ((hk.kp (KpT.of_below b45)).kp (KpT.of_below b6)))
  have B36 : Hid (Below w3.heap.size w3 w6) := over B5 b6
  have J6 : w6.heap[gs]? = some (.cells #[.slice (some ⟨gd, 0, none⟩) n gc, .slice pa 0 0] 86 (0, 0)) := (B36.out.block _ (by have := Z3.out; omega)).trans J3.out
  clear hk o6 g6 b6 b45 B5 R5 hW b4 i33 hi33 hz0 hz1 hz2
  have z6 : w6.cell? ⟨gs, 1, none⟩ = some (.slice pa 0 0) := by rw [cell_of_row _ _ _ _ _ _ J6]; rfl
  have fz6 : w6.frozen? ⟨gs, 1, none⟩ = false := by simp [World.frozen?, J6]
  obtain ⟨w7, hw7⟩ : ∃ w7, w6.setCell ⟨gs, 1, none⟩ (.slice (some ⟨gp, 0, none⟩) 1 pc6) = w7 := ⟨_, rfl⟩
  have J7 : Hid (w7.heap[gs]? = some (.cells #[.slice (some ⟨gd, 0, none⟩) n gc, .slice (some ⟨gp, 0, none⟩) 1 pc6] 86 (0, 0))) := by
    show _ = _
    rw [← hw7]; simp [World.setCell, Array.getElem?_modify, J6]
  have K7 : Hid (But gs w6 w7) := by show But _ _ _; rw [← hw7]; exact But.setCell _ _ _ _
  have J6H := Lib.hid J6
  clear J6
  refine Rg.l1 ?_
  (try simp only [zA, zB, zC])
  go_simp
  try rw [hw7]
  clear hw7 z6 fz6 g0 g1
  go_upto_region 3 with fail
  have kx7 := K7.out.kpx (t := 86) ⟨_, J6H.out⟩
  have V7 : Hid (DsG w7 gd D) := ((V2.out.below B23.out).below B36.out).kpx kx7 (by decide) (by decide)
  have PS7 : Hid (PsV w7 exP (.slice (some ⟨gp, 0, none⟩) 1 pc6)) := PS6.out.1.kx kx7 (by decide) (by decide) (by decide)
  have hc7 : w7.heap[w.heap.size + 1 + 1]? = some (.cells #[.slice none 0 0, .slice none 0 0] 86 (0, 0)) := (K7.out.block _ (by have := Z1.out; have := B13.out.size; have := B36.out.size; omega) (by have := Z1.out; have := B2.out.size; have := GS.out; omega)).trans ((B36.out.block _ (by have := Z1.out; have := B13.out.size; omega)).trans ((B13.out.block _ (by have := Z1.out; omega)).trans I2.out))
  have Q7 : Hid (Below w.heap.size w w7) := K7.out.below (by have := GS.out; have := B2.out.size; have := Z1.out; omega) (by have := Z1.out; have := B13.out.size; have := B36.out.size; omega) (over (over B1.out B13.out) B36.out)
  have HC7 := Lib.hid hc7
  have GP : Hid (w5.heap.size ≤ gp) := PS6.out.2
  clear kx7 hc7
  have D7 : Below w7.heap.size w7 w7.drew := (Below.refl _ _).drew
  refine Rg.s2 7 [] (fun W => W.cell? ⟨gs, 0, none⟩ = some (.slice (some ⟨gd, 0, none⟩) n gc) ∧ W.cell? ⟨gs, 1, none⟩ = some (.slice (some ⟨gp, 0, none⟩) 1 pc6)) ⟨by rw [cell_of_row w7.drew gs 0 _ _ _ J7.out]; rfl, by rw [cell_of_row w7.drew gs 1 _ _ _ J7.out]; rfl⟩ ?_
  generalize w7.drew = w8 at *
  refine Rg.t 0 ?_
  refine Rg.t 1 ?_
  refine Rg.t 2 ?_
  refine Rg.t 3 ?_
  refine Rg.t 4 ?_
  refine Rg.t 5 ?_
  have SB := stable_any (w := w8) (first := 0) (n := n) (c0 := gc) (np := 1) (pc := pc6) (nv := 0) (cv := 0) (va := none) (vs := []) (V7.out.below D7) DN.out l1 l2 (PS7.out.below D7) (fun h => absurd rfl h) rfl (Nat.le_refl _) (by omega) (by omega)
    (fun i hi => by
      obtain rfl : i = 0 := by omega
      refine ⟨fun i hi => ?_, by decide⟩
      have hi : i < 2 := hi
      match i, hi with
      | 0, _ => exact ⟨rfl, by show 0 < n; omega⟩
      | 1, _ => exact ⟨rfl, by show 1 < n; omega⟩) (by omega) ST.out (fun i D hi hg => by
      obtain rfl : i = 0 := by omega
      exact RU.out D hg)
  refine Rg.c1 6 fun K' hK => ?_
  (try simp only [zA, zB, zC])
  go_simp
  go_at_call 102
  refine SB.mono ?_
  rintro e w9 ⟨rfl, hb9, hg9⟩
  have BLK : Blk w8 gd 23 := (V7.out.below D7).blk
  have kx9 := hb9.kpx BLK
  have J8 : w8.heap[gs]? = some (.cells #[.slice (some ⟨gd, 0, none⟩) n gc, .slice (some ⟨gp, 0, none⟩) 1 pc6] 86 (0, 0)) := (D7.block gs (Array.getElem?_eq_some_iff.1 J7.out).1).trans J7.out
  have J9 := (kx9 gs 86 ⟨_, J8⟩ (by decide)).trans J8
  have hc8 := (D7.block (w.heap.size + 1 + 1) (Array.getElem?_eq_some_iff.1 HC7.out).1).trans HC7.out
  have hc9 := (kx9 (w.heap.size + 1 + 1) 86 ⟨_, hc8⟩ (by decide)).trans hc8
  have HC9 := Lib.hid hc9
  have G9 := Lib.hid hg9
  have PS9 : Hid (PsV w9 exP (.slice (some ⟨gp, 0, none⟩) 1 pc6)) := (PS7.out.below D7).kx kx9 (by decide) (by decide) (by decide)
  have Q9 : Hid (Below w.heap.size w w9) := hb9.below (by have := B1.out.size; omega) (by have := (over Q7.out D7).size; exact this) (over Q7.out D7)
  refine Rg.e1 hK ⟨by rw [cell_of_row w9 gs 0 _ _ _ J9]; rfl, by rw [cell_of_row w9 gs 1 _ _ _ J9]; rfl⟩ ?_
  clear hK K' SB hg9 hb9 kx9 J8 J9 hc8 BLK D7
  have d0 : w9.cell? ⟨w.heap.size + 1 + 1, 0, none⟩ = some (.slice none 0 0) := by rw [cell_of_row _ _ _ _ _ _ hc9]; rfl
  have d1 : w9.cell? ⟨w.heap.size + 1 + 1, 1, none⟩ = some (.slice none 0 0) := by rw [cell_of_row _ _ _ _ _ _ hc9]; rfl
  have fz0 : w9.frozen? ⟨w.heap.size + 1 + 1, 0, none⟩ = false := by simp [World.frozen?, hc9]
  have fz1 : w9.frozen? ⟨w.heap.size + 1 + 1, 1, none⟩ = false := by simp [World.frozen?, hc9]
  obtain ⟨wz, hwz⟩ : ∃ wz, ((w9.setCell ⟨w.heap.size + 1 + 1, 0, none⟩ (.slice (some ⟨gd, 0, none⟩) n gc)).setCell ⟨w.heap.size + 1 + 1, 1, none⟩ (.slice (some ⟨gp, 0, none⟩) 1 pc6)) = wz := ⟨_, rfl⟩
  have SZ : wz.heap[w.heap.size + 1 + 1]? = some (.cells #[.slice (some ⟨gd, 0, none⟩) n gc, .slice (some ⟨gp, 0, none⟩) 1 pc6] 86 (0, 0)) := by rw [← hwz]; exact set2 hc9
  have BZ : Hid (But (w.heap.size + 1 + 1) w9 wz) := by show But _ _ _; rw [← hwz]; exact (But.setCell _ _ _ _).trans (But.setCell _ _ _ _)
  have r0 : wz.cell? ⟨w.heap.size + 1 + 1, 0, none⟩ = some (.slice (some ⟨gd, 0, none⟩) n gc) := by rw [cell_of_row _ _ _ _ _ _ SZ]; rfl
  have r1 : wz.cell? ⟨w.heap.size + 1 + 1, 1, none⟩ = some (.slice (some ⟨gp, 0, none⟩) 1 pc6) := by rw [cell_of_row _ _ _ _ _ _ SZ]; rfl
  clear hc9
  refine fun _ _ _ => Rg.wt 7 rfl fun K' hK => ?_
  (try simp only [zA, zB, zC])
  go_simp
  try rw [hwz]
  refine hK.out _ _ ?_
  clear hK K' hwz
  try simp only [Act.put, zA, zB, zC, zD, zE, zF]
  refine Rg.wt 8 rfl fun K' hK => ?_
  (try simp only [zA, zB, zC])
  go_simp
  refine hK.out _ _ ?_
  clear hK K'
  try simp only [Act.put, zA, zB, zC, zD, zE, zF]
  refine Rg.wpD_done (by kernel_rfl) ?_
  go_simp
  go_wp2_with fail
  refine bodyPost_ret (v := .tuple #[.agg #[.slice (some ⟨gd, 0, none⟩) n gc, .slice (some ⟨gp, 0, none⟩) 1 pc6], .bool r.2]) (by simp [results, Tryz.results69, go_sem, r0, r1]) rfl ?_
  rw [HR.out]
  have kz := BZ.out.kpx (t := 86) ⟨_, HC9.out⟩
  exact ⟨⟨_, _, _, _, rfl, l1, l2, PS9.out.kx kz (by decide) (by decide) (by decide), fun q => ((G9.out q).kpx kz (by decide) (by decide)).k⟩, BZ.out.below (by omega) Q9.out.size Q9.out⟩
end Go.Proofs.YteiohgiecpibhaaGreat
