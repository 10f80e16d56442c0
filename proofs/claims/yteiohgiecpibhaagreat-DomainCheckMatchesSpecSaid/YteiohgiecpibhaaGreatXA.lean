/- labelled(), given the rule that must differ. -/
import Derived.Test.YteiohgiecpibhaaGreatWz
set_option linter.unusedVariables false
set_option linter.unusedSimpArgs false
set_option maxRecDepth 100000
set_option maxHeartbeats 4000000
namespace Go.Proofs.YteiohgiecpibhaaGreat
open Go.RowKit Fdm

theorem StoB.below {w w' : World} {p : Nat} {D : List Dm} {P : List Con} (h : StoB w p D P) (hb : Below w.heap.size w w') : StoB w' p D P := by
  obtain ⟨a, c, pa, pc, m0, m1, m2, row, k1, k2, k3, k4, hD, hP⟩ := h.ex
  exact ⟨a, c, pa, pc, m0, m1, m2, (hb.block _ (Array.getElem?_eq_some_iff.1 row).1).trans row, k1, k2, k3, k4, hD.below hb, hP.below hb⟩
/-- A domain of one span that was just built. -/
theorem DmS.one {w : World} {lo hi : Int} : DmS (w.alloc (.cells #[.int .i64 lo, .int .i64 hi] 63)) [(lo, hi)] (some ⟨w.heap.size, 0, none⟩) 1 1 := by
  have hh := heap_alloc_new w (.cells #[.int .i64 lo, .int .i64 hi] 63)
  refine ⟨fun _ => ⟨_, 0, rfl, fun i hi => ?_⟩, rfl, Nat.le_refl _, by omega⟩
  obtain rfl : i = 0 := by simpa using hi
  exact ⟨by rw [cell_of_row _ _ _ _ _ _ hh]; rfl, by rw [cell_of_row _ _ _ _ _ _ hh]; rfl⟩
theorem exE (hR : ∀ D, exG exC D = true → RuOk exRu exC D) : Env exRu exG exP 2 := ⟨fun i hi => by
    obtain rfl : i = 0 := by simpa [exP] using hi
    refine ⟨fun i hi => ?_, by decide⟩
    have hi : i < 2 := hi
    match i, hi with
    | 0, _ => exact ⟨rfl, by decide⟩
    | 1, _ => exact ⟨rfl, by decide⟩, by decide, fun i D hi hg => by
    obtain rfl : i = 0 := by simpa [exP] using hi
    exact hR D hg⟩
/-- Six found in memory: the first and the last. -/
theorem FoO.six {w : World} {base : Nat} {v : Value} {F : List (List Int)} (h : FoO w base v F) (hl : F.length = 6) : ∃ g c, v = .slice (some ⟨g, 0, none⟩) 6 c ∧ ∀ i, i < 6 → ∃ u, w.cell? ⟨g, i, none⟩ = some u ∧ InV w (F.getD i []) u := by
  obtain ⟨us, o, ul, uk⟩ := h
  rw [hl] at o
  rcases o.own.2 with ⟨_, h0⟩ | ⟨g, cap, cur, rfl, hb, hg, hnc, hcm, hcs, htake⟩
  · omega
  · refine ⟨g, cap, rfl, fun i hi => ?_⟩
    obtain ⟨u, p, q⟩ := uk i (by omega)
    refine ⟨u, ?_, q⟩
    have := o.own.cellAt (g := g) (j := i) (by omega)
    rw [← p]; simpa using this
theorem InV.two {w : World} {x y : Int} {u : Value} (h : InV w [x, y] u) : ∃ g o c, u = .slice (some ⟨g, o, none⟩) 2 c ∧ w.cell? ⟨g, o, none⟩ = some (.int .i64 x) ∧ w.cell? ⟨g, o + 1, none⟩ = some (.int .i64 y) := by
  obtain ⟨a, c, rfl, _, _, q⟩ := h.ex
  obtain ⟨g, o, rfl, _, k⟩ := q (by simp)
  exact ⟨g, o, c, rfl, k 0 (by simp), k 1 (by simp)⟩
theorem labelled_any (hR : ∀ D, exG exC D = true → RuOk exRu exC D) (w : World) : Calls Tryz.prog 14 #[] w fun e w' => e = .returned (.bool true) ∧ Below w.heap.size w w' := by
  have RU := Lib.hid hR
  clear hR
  go_enter Tryz.func14, Tryz.ntmps14
  go_upto_region 2 with (go_at_call 37; refine (new_any w).mono ?_; rintro e w1 ⟨rfl, hs, hb⟩; have S1 := Lib.hid hs; have B1 := Lib.hid hb; clear hs hb)
  have V1 : Hid (Calls Tryz.prog 38 #[.pointer (some ⟨w.heap.size, 0, none⟩), .slice (some ⟨w1.heap.size, 0, none⟩) 1 1] (w1.alloc (.cells #[.int .i64 0, .int .i64 2] 63)) fun e w' => e = .returned (.tuple #[.int .i64 0, .int .i64 0]) ∧ StoB w' w.heap.size [[(0, 2)]] [] ∧ Below w.heap.size w w') :=
    (var_any (d := [(0, 2)]) (S1.out.below (below_new _ _)) DmS.one (by decide) (by decide)).mono fun e w' h => ⟨h.1, h.2.1, h.2.2.below (Nat.le_refl _) (by have := B1.out.size; simp; omega) (over B1.out (below_new _ _))⟩
  go_upto_region 3 with (go_at_call 38; refine V1.out.mono ?_; rintro e w2 ⟨rfl, hs, hb⟩; have S2 := Lib.hid hs; have B2 := Lib.hid hb; clear hs hb)
  have V2 : Hid (Calls Tryz.prog 38 #[.pointer (some ⟨w.heap.size, 0, none⟩), .slice (some ⟨w2.heap.size, 0, none⟩) 1 1] (w2.alloc (.cells #[.int .i64 0, .int .i64 2] 63)) fun e w' => e = .returned (.tuple #[.int .i64 1, .int .i64 0]) ∧ StoB w' w.heap.size [[(0, 2)], [(0, 2)]] [] ∧ Below w.heap.size w w') :=
    (var_any (d := [(0, 2)]) (S2.out.below (below_new _ _)) DmS.one (by decide) (by decide)).mono fun e w' h => ⟨h.1, h.2.1, h.2.2.below (Nat.le_refl _) (by have := B2.out.size; simp; omega) (over B2.out (below_new _ _))⟩
  go_upto_region 4 with (go_at_call 38; refine V2.out.mono ?_; rintro e w3 ⟨rfl, hs, hb⟩; have S3 := Lib.hid hs; have B3 := Lib.hid hb; clear hs hb)
  have N3 : ∀ (W : World), (W.alloc (.cells #[.int .i64 0, .int .i64 1] 3)).cell? ⟨W.heap.size, 0, none⟩ = some (.int .i64 0) ∧ (W.alloc (.cells #[.int .i64 0, .int .i64 1] 3)).cell? ⟨W.heap.size, 1, none⟩ = some (.int .i64 1) := fun W => by
    have hh := heap_alloc_new W (.cells #[.int .i64 0, .int .i64 1] 3)
    exact ⟨by rw [cell_of_row _ _ _ _ _ _ hh]; rfl, by rw [cell_of_row _ _ _ _ _ _ hh]; rfl⟩
  have PO : Hid (Calls Tryz.prog 39 #[.pointer (some ⟨w.heap.size, 0, none⟩), exV w3.heap.size] (w3.alloc (.cells #[.int .i64 0, .int .i64 1] 3)) fun e w' => e = .returned (.int .i64 0) ∧ StoB w' w.heap.size [[(0, 2)], [(0, 2)]] exP ∧ Below w.heap.size w w') :=
    (post_any (S3.out.below (below_new _ _)) rfl (N3 w3).1 (N3 w3).2 ex_post RU.out).mono fun e w' h => ⟨h.1, h.2.1, h.2.2.1.below (Nat.le_refl _) (by have := B3.out.size; simp; omega) (over B3.out (below_new _ _))⟩
  unfold exV at PO
  have N3 := Lib.hid N3
  go_upto_region 5 with (go_at_call 39; refine PO.out.mono ?_; rintro e w4 ⟨rfl, hs, hb⟩; have S4 := Lib.hid hs; have B4 := Lib.hid hb; clear hs hb)
  have LA : Hid (Calls Tryz.prog 33 #[.pointer (some ⟨w.heap.size, 0, none⟩), .slice (some ⟨w4.heap.size, 0, none⟩) 2 2, .int .i64 0, .int .i64 0, .int .i64 10, .int .i64 100] (w4.alloc (.cells #[.int .i64 0, .int .i64 1] 3)) fun e w' => ∃ g c, e = .returned (.tuple #[.slice (some ⟨g, 0, none⟩) 6 c, .int .i64 0]) ∧ (∃ g0 o0 c0, w'.cell? ⟨g, 0, none⟩ = some (.slice (some ⟨g0, o0, none⟩) 2 c0) ∧ w'.cell? ⟨g0, o0, none⟩ = some (.int .i64 0) ∧ w'.cell? ⟨g0, o0 + 1, none⟩ = some (.int .i64 1)) ∧ (∃ g5 o5 c5, w'.cell? ⟨g, 5, none⟩ = some (.slice (some ⟨g5, o5, none⟩) 2 c5) ∧ w'.cell? ⟨g5, o5, none⟩ = some (.int .i64 2) ∧ w'.cell? ⟨g5, o5 + 1, none⟩ = some (.int .i64 1)) ∧ Below w.heap.size w w') :=
    (label_any (S4.out.below (below_new _ _)) rfl (N3.out w4).1 (N3.out w4).2 (exE RU.out) ex_label rfl).mono (by
      rintro e w' ⟨v, base, rfl, hf, hb⟩
      obtain ⟨g, c, rfl, k⟩ := hf.six rfl
      obtain ⟨u0, p0, q0⟩ := k 0 (by omega)
      obtain ⟨u5, p5, q5⟩ := k 5 (by omega)
      have q0 : InV w' [0, 1] u0 := q0
      have q5 : InV w' [2, 1] u5 := q5
      obtain ⟨g0, o0, c0, rfl, x0, y0⟩ := q0.two
      obtain ⟨g5, o5, c5, rfl, x5, y5⟩ := q5.two
      exact ⟨g, c, rfl, ⟨_, _, _, p0, x0, y0⟩, ⟨_, _, _, p5, x5, y5⟩, over (over B4.out (below_new _ _)) hb⟩)
  go_upto_region 6 with (go_at_call 33; refine LA.out.mono ?_; rintro e w5 ⟨g, c, rfl, ⟨g0, o0, c0, p0, x0, y0⟩, ⟨g5, o5, c5, p5, x5, y5⟩, hb⟩; have B5 := Lib.hid hb; clear hb)
  go_wp2_with fail
  go_ret
  exact ⟨rfl, B5.out⟩
end Go.Proofs.YteiohgiecpibhaaGreat
