/- slices.Clone of integers. -/
import Derived.Test.YthhogbligfmpdaaXm
set_option linter.unusedVariables false
set_option linter.unusedSimpArgs false
namespace Go.Proofs.Ythhogbligfmpdaa
open Go.RowKit Bd

def ClPost (w : World) (l : List Int) (e : Ending) (w' : World) : Prop :=
  ∃ g cap, e = .returned (.slice (some ⟨g, 0, none⟩) l.length cap) ∧ w.heap.size ≤ g ∧ g < w'.heap.size ∧ (∀ j, j < l.length → w'.cell? ⟨g, j, none⟩ = some (.int .i64 (l.getD j 0))) ∧ Below w.heap.size w w'

theorem map_get {l : List Int} {j : Nat} (h : j < l.length) : (l.map (Value.int .i64))[j]? = some (.int .i64 (l.getD j 0)) := by
  rw [List.getElem?_map, List.getElem?_eq_getElem h, List.getD_eq_getElem?_getD, List.getElem?_eq_getElem h]; rfl

theorem own_empty (w : World) : (w.alloc (.cells #[] 3)).ownsRow w.heap.size 3 1 (.slice (some ⟨w.heap.size, 0, none⟩) 0 0) 0 [] :=
  ⟨rfl, Or.inr ⟨w.heap.size, 0, #[], rfl, Nat.le_refl _, heap_alloc_new w _, Nat.le_refl _, by unfold maxLen; omega, rfl, rfl⟩⟩
theorem clone_news {w : World} {gn n : Nat} {l : List Int} (hn : l.length = n) (hc : ∀ j, j < n → w.cell? ⟨gn, j, none⟩ = some (.int .i64 (l.getD j 0))) (j : Nat) (u : Value) (hu : (l.map (Value.int .i64))[j]? = some u) : (w.alloc (.cells #[] 3)).cell? ((⟨gn, 0, none⟩ : Addr).add j) = some u := by
  have hj : j < l.length := by
    rcases Nat.lt_or_ge j l.length with h | h
    · exact h
    · rw [List.getElem?_eq_none (by simpa using h)] at hu; simp at hu
  rw [map_get hj] at hu
  injection hu with hu
  subst hu
  have h1 := hc j (by omega)
  rw [WideShapes.add_plain, Nat.zero_add]
  exact (World.cell?_of_block (a := ⟨gn, j, none⟩) (Below.heap_alloc w _ gn (lt_of_cell h1))).trans h1

set_option maxRecDepth 100000 in
set_option maxHeartbeats 400000 in
theorem clone_any {w : World} {gn n c : Nat} {l : List Int} (hn : l.length = n) (hl : n ≤ 1000000) (hc : ∀ j, j < n → w.cell? ⟨gn, j, none⟩ = some (.int .i64 (l.getD j 0))) :
    Calls Try.prog 60 #[.slice (some ⟨gn, 0, none⟩) n c] w (ClPost w l) := by
  have HN := Lib.hid hn; clear hn
  have HC := Lib.hid hc; clear hc
  obtain ⟨i0, hi0, hz0, hz1, hz2⟩ := info_parts info3
  have he := fun (w : World) => Lib.run_eql_slice_nil (P := Try.prog) w 53 3 (some ⟨gn, 0, none⟩) n c 0 0 Try.underlying53
  go_enter Try.func60, Try.ntmps60
  go_wp2_with (at_builtin; refine wpList_append_own _ rfl _ _ 53 rfl w.heap.size 3 i0 (.int .i64 0) 1 8 Try.underlying53 hi0 hz0 hz1 hz2 rfl (by omega) (.slice (some ⟨w.heap.size, 0, none⟩) 0 0) 0 [] rfl (own_empty w) ⟨gn, 0, none⟩ n c (l.map (Value.int .i64)) rfl (by rw [List.length_map, HN.out, Nat.mul_one]) (clone_news HN.out HC.out) (by intro u hu; obtain ⟨x, _, rfl⟩ := List.mem_map.1 hu; rfl) (by unfold maxLen; omega) (by omega) (by simp) ?_; intro v' w1 hown1 hgrow1 hnil1; have OW := Lib.hid hown1; simp only [Nat.zero_add, List.nil_append] at OW; have GR := Lib.hid hgrow1; have NI := Lib.hid hnil1; clear hown1 hgrow1 hnil1)
  go_ret
  obtain ⟨g, cap, cur, rfl, hg, hcell, _⟩ : ∃ g cap cur, v' = .slice (some ⟨g, 0, none⟩) n cap ∧ w.heap.size ≤ g ∧ w1.heap[g]? = some (.cells cur 3 (0, 0)) ∧ True := by
    rcases OW.out.2 with ⟨h1, h2⟩ | ⟨g, cap, cur, h1, h2, h3, _⟩
    · have := NI.out.1 h1
      simp at this
    · exact ⟨g, cap, cur, h1, h2, h3, trivial⟩
  refine ⟨g, cap, by rw [HN.out]; rfl, hg, lt_of_some hcell, fun j hj => ?_, ?_⟩
  · have h1 := OW.out.cellAt j (by rw [HN.out] at hj; omega)
    rw [h1]
    exact map_get hj
  · refine ⟨GR.out.os, GR.out.tape, GR.out.output, Nat.le_trans (by simp) GR.out.size, fun k hk => ?_⟩
    rw [GR.out.block k (by simp; omega) (by simp [Value.ownBlock]; omega)]
    exact Below.heap_alloc w _ k hk

end Go.Proofs.Ythhogbligfmpdaa
