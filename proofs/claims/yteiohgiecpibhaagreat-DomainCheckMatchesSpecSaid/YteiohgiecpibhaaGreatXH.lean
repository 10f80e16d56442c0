/- Sorting and compacting at most two numbers. -/
import Derived.Test.YteiohgiecpibhaaGreatXG
set_option linter.unusedVariables false
set_option linter.unusedSimpArgs false
namespace Go.Proofs.YteiohgiecpibhaaGreat
open Go.RowKit Fdm

theorem cs0 : Lib.compact (srt []) = isort [] := by
  simp [srt, Lib.compact, Lib.compactUpTo, isort]
theorem cs1 (v : Int) : Lib.compact (srt [v]) = isort [v] := by
  simp [srt, Lib.compact, Lib.compactUpTo, isort, Lib.keeps, List.range_succ]
theorem srt2 (u v : Int) : srt [u, v] = if u ≤ v then [u, v] else [v, u] := by
  simp [srt, List.mergeSort, List.MergeSort.Internal.splitInTwo, List.merge]
theorem cs2 (u v : Int) (h : u ≠ v) : Lib.compact (srt [u, v]) = isort [u, v] := by
  rw [srt2]
  by_cases q : u ≤ v
  · have : u < v := by omega
    have h2 : ¬ v < u := by omega
    simp [q, Lib.compact, Lib.compactUpTo, isort, Lib.keeps, List.range_succ, h, h2]
    exact ⟨1, by simp [Lib.keeps, Ne.symm h], rfl⟩
  · have : v < u := by omega
    simp [q, Lib.compact, Lib.compactUpTo, isort, Lib.keeps, List.range_succ, Ne.symm h, this]
    exact ⟨1, by simp [Lib.keeps, h], rfl⟩
end Go.Proofs.YteiohgiecpibhaaGreat
