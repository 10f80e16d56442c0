/- slices.Sort, Compact, Collect and Sorted over slices.Values at []int (the Bool text Ym turned to this seat by xc.py). -/
import Derived.Test.YteiohgiecpibhaaGreatXB
import Derived.Test.YteiohgiecpibhaaGreatSh
import Derived.Sort.OwnSortedInts
import Derived.Shelf.Slices.Cells
set_option linter.unusedVariables false
set_option linter.unusedSimpArgs false
namespace Go.Proofs.YteiohgiecpibhaaGreat
open Go.RowKit Fdm

theorem grow_nil (w : World) : Go.Sort.grow w #[] = w := by simp [Go.Sort.grow]
def srt (zs : List Int) : List Int := zs.mergeSort fun x y => decide (x ≤ y)
theorem srt_len (zs : List Int) : (srt zs).length = zs.length := List.length_mergeSort _
theorem sort_own2 {w : World} {T n lc : Nat} {la : Option Addr} {zs : List Int} (h : w.ownsRow T 3 1 (.slice la n lc) n (zs.map (Value.int .i64))) (hl : n ≤ 2000000) (hT : T ≤ w.heap.size) :
    Calls Tryz.prog 104 #[.slice la n lc] w fun e w' => e = .returned (.tuple #[]) ∧ w'.ownsRow T 3 1 (.slice la n lc) n ((srt zs).map (Value.int .i64)) ∧ Below T w w' := by
  have hz : zs.length = n := by have := h.1; simpa using this
  rcases h.2 with ⟨h1, h2⟩ | ⟨g, cap, cur, h1, h2, h3, h4, h5, h6, h7⟩
  · subst h2
    have h0 : zs = [] := List.length_eq_zero_iff.1 hz
    subst h0
    refine (Tryz.slices_Sort_int_none la lc w).mono ?_
    rintro e w' ⟨rfl, rfl⟩
    exact ⟨rfl, by have e : srt [] = [] := List.length_eq_zero_iff.1 (srt_len []); rw [e]; exact h, Below.refl _ _⟩
  · injection h1 with e1 e2 e3
    subst e1 e3 hz
    refine (Tryz.slices_Sort_int g 0 lc zs w (holds_of_blockI h3 (by simpa using h7)) (Array.getElem?_eq_some_iff.1 h3).1 (by omega)).mono ?_
    rintro e w' ⟨rfl, k, os, rfl⟩
    have gb := grownBy_sortedI (w := w) (g := g) (n := k) (os := os) (srt zs).toArray
    refine ⟨rfl, ownsRow_sortedI (srt_len zs) h2 h3 h4 h5 h6, gb.os, gb.tape, gb.output, gb.size, fun b hb => gb.block b (by omega) (fun e => ?_)⟩
    injection e with e
    omega

theorem compact_own2 {w : World} {T n lc : Nat} {la : Option Addr} {zs : List Int} (h : w.ownsRow T 3 1 (.slice la n lc) n (zs.map (Value.int .i64))) (hl : n ≤ 2000000) (hT : T ≤ w.heap.size) :
    Calls Tryz.prog 70 #[.slice la n lc] w fun e w' => e = .returned (.slice la (Lib.compact zs).length lc) ∧ InA w' (Lib.compact zs) la ∧ (∀ b, la.map (·.block) = some b → T ≤ b) ∧ Below T w w' := by
  have hz : zs.length = n := by have := h.1; simpa using this
  have hle := Lib.compact_length_le zs
  rcases h.2 with ⟨h1, h2⟩ | ⟨g, cap, cur, h1, h2, h3, h4, h5, h6, h7⟩
  · subst h2
    have h0 : zs = [] := List.length_eq_zero_iff.1 hz
    subst h0
    refine (Tryz.slices_Compact_int_empty la lc w).mono ?_
    rintro e w' ⟨rfl, rfl⟩
    injection h1 with e1 e2 e3
    subst e1
    exact ⟨rfl, fun h => absurd rfl h, fun b hb => by simp at hb, Below.refl _ _⟩
  · injection h1 with e1 e2 e3
    subst e1 e3 hz
    refine (Tryz.slices_Compact_int g 0 lc zs w (holds_of_blockI h3 (by simpa using h7)) (by omega) h4).mono ?_
    rintro e w' ⟨rfl, k, hw⟩
    have hlen : (Lib.compact zs ++ List.replicate (zs.length - (Lib.compact zs).length) 0).length = zs.length := by simp; omega
    have gb := grownBy_sortedI (w := w) (g := g) (n := k) (os := #[]) (Lib.compact zs ++ List.replicate (zs.length - (Lib.compact zs).length) 0).toArray
    have ow := ownsRow_sortedI (n := k) (os := #[]) hlen h2 h3 h4 h5 h6
    rw [grow_nil, ← hw] at gb ow
    refine ⟨rfl, fun _ => ⟨g, 0, rfl, fun i hi => ?_⟩, fun b hb => ?_, gb.os, gb.tape, gb.output, gb.size, fun b hb => gb.block b (by omega) (fun e => ?_)⟩
    · have := ow.cellAt i (by omega)
      rw [Nat.zero_add, this, List.getElem?_map, List.getElem?_append_left hi, List.getElem?_eq_getElem hi, List.getD_eq_getElem?_getD, List.getElem?_eq_getElem hi]
      rfl
    · simp at hb; omega
    · injection e with e
      omega

set_option maxRecDepth 100000 in
set_option maxHeartbeats 1000000 in
theorem collect_any {w : World} {Bs : Nat} {sv : Value} {zs : List Int} (hl : zs.length ≤ 2000000) (hBs : Bs < w.heap.size) (hcB : w.cell? ⟨Bs, 0, none⟩ = some sv) (hI : Sv.Ints w.heap.size w sv zs) :
    Calls Tryz.prog 103 #[.func (.func 105) #[] #[.pointer (some ⟨Bs, 0, none⟩)]] w fun e W' => ∃ a cap, e = .returned (.slice a zs.length cap) ∧ W'.ownsRow w.heap.size 3 1 (.slice a zs.length cap) zs.length (zs.map (Value.int .i64)) ∧ Below w.heap.size w W' := by
  have C : Hid (Calls Tryz.prog 116 #[.slice none 0 0, .func (.func 105) #[] #[.pointer (some ⟨Bs, 0, none⟩)]] w fun e W' => ∃ v, e = .returned v ∧ W'.ownsRow w.heap.size 3 1 v zs.length (zs.map (Value.int .i64)) ∧ (v = .slice none 0 0 ↔ zs = []) ∧ Below w.heap.size w W') :=
    callsIn_wide.1 (appendSeq_in Fence.wide 3 trivial trivial rfl (Nat.le_refl _) Bs sv zs (by omega) w hBs hcB hI)
  clear hBs hcB hI
  go_enter Tryz.func103, Tryz.ntmps103
  go_wp2_with fail
  refine C.out.mono ?_
  clear C
  rintro e w2 ⟨v, rfl, ow, hnil, bl⟩
  have OW := Lib.hid ow
  have BL := Lib.hid bl
  obtain ⟨a, cap, rfl⟩ : ∃ a cap, v = .slice a zs.length cap := by
    rcases ow.2 with ⟨h1, h2⟩ | ⟨g, cap, cur, h1, _⟩
    · exact ⟨none, 0, by rw [h1, h2]⟩
    · exact ⟨_, _, h1⟩
  clear ow bl hnil
  go_wp2_with fail
  go_ret
  exact ⟨a, cap, rfl, OW.out, BL.out⟩

set_option maxRecDepth 100000 in
set_option maxHeartbeats 1000000 in
theorem sorted_any {w : World} {Bs : Nat} {sv : Value} {zs : List Int} (hl : zs.length ≤ 2000000) (hBs : Bs < w.heap.size) (hcB : w.cell? ⟨Bs, 0, none⟩ = some sv) (hI : Sv.Ints w.heap.size w sv zs) :
    Calls Tryz.prog 71 #[.func (.func 105) #[] #[.pointer (some ⟨Bs, 0, none⟩)]] w fun e W' => ∃ a cap, e = .returned (.slice a zs.length cap) ∧ W'.ownsRow w.heap.size 3 1 (.slice a zs.length cap) zs.length ((srt zs).map (Value.int .i64)) ∧ Below w.heap.size w W' := by
  have C := Lib.hid (collect_any hl hBs hcB hI)
  clear hBs hcB hI
  go_enter Tryz.func71, Tryz.ntmps71
  go_wp2_with fail
  refine C.out.mono ?_
  clear C
  rintro e w2 ⟨a, cap, rfl, ow, bl⟩
  have S := Lib.hid (sort_own2 ow hl bl.size)
  have BL := Lib.hid bl
  clear ow bl
  go_wp2_with fail
  refine S.out.mono ?_
  clear S
  rintro e w3 ⟨rfl, ow3, bl3⟩
  have OW := Lib.hid ow3
  have B3 := Lib.hid (BL.out.trans bl3)
  clear ow3 bl3
  go_wp2_with fail
  go_ret
  exact ⟨a, cap, rfl, OW.out, B3.out⟩

end Go.Proofs.YteiohgiecpibhaaGreat
