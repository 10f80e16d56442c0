/- How a list of integers that came in is read. -/
import Derived.Test.YthhogbligfmpdaaRa
import Derived.Test.YthhogbligfmpdaaXq
import Derived.ChangeSlices
set_option linter.unusedVariables false
set_option linter.unusedSimpArgs false
namespace Go.Proofs.Ythhogbligfmpdaa
open Go.RowKit Bd

theorem ints_arg {H : Type} {enc : TypeId × Value → H} {W : World} {a : Option Addr} {n c : Nat} {d : DataW H} {p : List MemPlace} (h : DataW.Trod enc Try.prog W 0 (fun _ => true) true 53 (.slice a n c) d p) :
    ∃ zs : List Int, zs.length = n ∧ IAt W zs a ∧ n ≤ Rows.uptoBulk d ∧ n ≤ 9223372036854775807 := by
  obtain ⟨fuel, hf⟩ := h
  rcases ChangeShapes.open_ints Try.underlying53 Try.underlying3 cells3' hf with ⟨e, hx⟩ | ⟨ad, len, cap, zs, e, hb, hlc, hcm, hzl, hx, hc, hw⟩
  · simp [Value.cells] at e
    obtain ⟨rfl, rfl, rfl⟩ := e
    exact ⟨[], rfl, iAt_nil _ _, Nat.zero_le _, by omega⟩
  · simp [Value.cells] at e
    obtain ⟨rfl, rfl, rfl⟩ := e
    have hl2 : zs.length = c := by simpa using hzl
    have hd : d = .slice (ChangeShapes.lits .i64 (zs.take n)) (ChangeShapes.lits .i64 (zs.drop n)) := congrArg Prod.fst hx
    refine ⟨zs.take n, by rw [List.length_take]; omega, fun hne => ?_, ?_, by unfold maxLen at hcm; omega⟩
    · have hn : 0 < n := by
        have := List.length_pos_iff.2 hne
        rw [List.length_take] at this; omega
      obtain ⟨b, o, sp⟩ := ad
      have h0 := hc 0 (by omega)
      have s0 := World.cell?_spot (w := W) h0
      simp [Addr.add] at s0
      subst s0
      refine ⟨b, o, rfl, fun i hi => ?_⟩
      rw [List.length_take] at hi
      have := hc i (by omega)
      rw [List.getD_eq_getElem?_getD, List.getElem?_take, if_pos (by omega), ← List.getD_eq_getElem?_getD]
      by_cases hi0 : i = 0
      · subst hi0; simpa [Addr.add] using this
      · simpa [Addr.add, hi0] using this
    · rw [hd]
      simp only [Rows.uptoBulk]
      have := bulk_len (ChangeShapes.lits (H := H) .i64 (zs.take n))
      have e2 : (ChangeShapes.lits (H := H) .i64 (zs.take n)).length = n := by unfold ChangeShapes.lits; rw [List.length_map, List.length_take]; omega
      omega

end Go.Proofs.Ythhogbligfmpdaa
