/- slices.Collect and slices.Sorted over slices.Values at []int; whether some number is no variable's. -/
import Derived.Test.YthhogbligfmpdaaYk
import Derived.Test.YthhogbligfmpdaaYa
import Derived.Test.YthhogbligfmpdaaYf
set_option linter.unusedVariables false
set_option linter.unusedSimpArgs false
namespace Go.Proofs.Ythhogbligfmpdaa
open Go.RowKit Bd

theorem sort_own2 {w : World} {T n lc : Nat} {la : Option Addr} {zs : List Int} (h : w.ownsRow T 3 1 (.slice la n lc) n (zs.map (Value.int .i64))) (hl : n ≤ 2000000) (hT : T ≤ w.heap.size) :
    Calls Try.prog 87 #[.slice la n lc] w fun e w' => e = .returned (.tuple #[]) ∧ w'.ownsRow T 3 1 (.slice la n lc) n ((srt zs).map (Value.int .i64)) ∧ Below T w w' := by
  have hz : zs.length = n := by have := h.1; simpa using this
  rcases h.2 with ⟨h1, h2⟩ | ⟨g, cap, cur, h1, h2, h3, h4, h5, h6, h7⟩
  · subst h2
    have h0 : zs = [] := List.length_eq_zero_iff.1 hz
    subst h0
    refine (Try.slices_Sort_int_none la lc w).mono ?_
    rintro e w' ⟨rfl, rfl⟩
    exact ⟨rfl, by have e : srt [] = [] := List.length_eq_zero_iff.1 (srt_len []); rw [e]; exact h, Below.refl _ _⟩
  · injection h1 with e1 e2 e3
    subst e1 e3 hz
    refine (Try.slices_Sort_int g 0 lc zs w (holds_of_blockI h3 (by simpa using h7)) (Array.getElem?_eq_some_iff.1 h3).1 (by omega)).mono ?_
    rintro e w' ⟨rfl, k, os, rfl⟩
    have gb := grownBy_sortedI (w := w) (g := g) (n := k) (os := os) (srt zs).toArray
    refine ⟨rfl, ownsRow_sortedI (srt_len zs) h2 h3 h4 h5 h6, gb.os, gb.tape, gb.output, gb.size, fun b hb => gb.block b (by omega) (fun e => ?_)⟩
    injection e with e
    omega

theorem compact_own2 {w : World} {T n lc : Nat} {la : Option Addr} {zs : List Int} (h : w.ownsRow T 3 1 (.slice la n lc) n (zs.map (Value.int .i64))) (hl : n ≤ 2000000) (hT : T ≤ w.heap.size) :
    Calls Try.prog 69 #[.slice la n lc] w fun e w' => e = .returned (.slice la (Lib.compact zs).length lc) ∧ IAt w' (Lib.compact zs) la ∧ (∀ b, la.map (·.block) = some b → T ≤ b) ∧ Below T w w' := by
  have hz : zs.length = n := by have := h.1; simpa using this
  have hle := Lib.compact_length_le zs
  rcases h.2 with ⟨h1, h2⟩ | ⟨g, cap, cur, h1, h2, h3, h4, h5, h6, h7⟩
  · subst h2
    have h0 : zs = [] := List.length_eq_zero_iff.1 hz
    subst h0
    refine (Try.slices_Compact_int_empty la lc w).mono ?_
    rintro e w' ⟨rfl, rfl⟩
    injection h1 with e1 e2 e3
    subst e1
    exact ⟨rfl, iAt_nil _ _, fun b hb => by simp at hb, Below.refl _ _⟩
  · injection h1 with e1 e2 e3
    subst e1 e3 hz
    refine (Try.slices_Compact_int g 0 lc zs w (holds_of_blockI h3 (by simpa using h7)) (by omega) h4).mono ?_
    rintro e w' ⟨rfl, k, hw⟩
    have hlen : (Lib.compact zs ++ List.replicate (zs.length - (Lib.compact zs).length) 0).length = zs.length := by simp; omega
    have gb := grownBy_sortedI (w := w) (g := g) (n := k) (os := #[]) (Lib.compact zs ++ List.replicate (zs.length - (Lib.compact zs).length) 0).toArray
    have ow := ownsRow_sortedI (n := k) (os := #[]) hlen h2 h3 h4 h5 h6
    rw [grow_nil, ← hw] at gb ow
    refine ⟨rfl, fun _ => ⟨g, 0, rfl, fun i hi => ?_⟩, fun b hb => ?_, gb.os, gb.tape, gb.output, gb.size, fun b hb => gb.block b (by omega) (fun e => ?_)⟩
    · have := ow.cellAt i (by omega)
      rw [Nat.zero_add, this, List.getElem?_map, List.getElem?_append_left hi, List.getElem?_eq_getElem hi, List.getD_eq_getElem?_getD, List.getElem?_eq_getElem hi]
      rfl
    · simp at hb; omega
    · injection e with e
      omega

set_option maxRecDepth 100000 in
set_option maxHeartbeats 1000000 in
theorem collect_any {w : World} {Bs : Nat} {sv : Value} {zs : List Int} (hl : zs.length ≤ 2000000) (hBs : Bs < w.heap.size) (hcB : w.cell? ⟨Bs, 0, none⟩ = some sv) (hI : Sv.Ints w.heap.size w sv zs) :
    Calls Try.prog 92 #[.func (.func 93) #[] #[.pointer (some ⟨Bs, 0, none⟩)]] w fun e W' => ∃ a cap, e = .returned (.slice a zs.length cap) ∧ W'.ownsRow w.heap.size 3 1 (.slice a zs.length cap) zs.length (zs.map (Value.int .i64)) ∧ Below w.heap.size w W' := by
  have C : Hid (Calls Try.prog 101 #[.slice none 0 0, .func (.func 93) #[] #[.pointer (some ⟨Bs, 0, none⟩)]] w fun e W' => ∃ v, e = .returned v ∧ W'.ownsRow w.heap.size 3 1 v zs.length (zs.map (Value.int .i64)) ∧ (v = .slice none 0 0 ↔ zs = []) ∧ Below w.heap.size w W') :=
    callsIn_wide.1 (appendSeq_in Fence.wide 3 trivial trivial rfl (Nat.le_refl _) Bs sv zs (by omega) w hBs hcB hI)
  clear hBs hcB hI
  go_enter Try.func92, Try.ntmps92
  go_wp2_with fail
  refine C.out.mono ?_
  clear C
  rintro e w2 ⟨v, rfl, ow, hnil, bl⟩
  have OW := Lib.hid ow
  have BL := Lib.hid bl
  obtain ⟨a, cap, rfl⟩ : ∃ a cap, v = .slice a zs.length cap := by
    rcases ow.2 with ⟨h1, h2⟩ | ⟨g, cap, cur, h1, _⟩
    · exact ⟨none, 0, by rw [h1, h2]⟩
    · exact ⟨_, _, h1⟩
  clear ow bl hnil
  go_wp2_with fail
  go_ret
  exact ⟨a, cap, rfl, OW.out, BL.out⟩

set_option maxRecDepth 100000 in
set_option maxHeartbeats 1000000 in
theorem sorted_any {w : World} {Bs : Nat} {sv : Value} {zs : List Int} (hl : zs.length ≤ 2000000) (hBs : Bs < w.heap.size) (hcB : w.cell? ⟨Bs, 0, none⟩ = some sv) (hI : Sv.Ints w.heap.size w sv zs) :
    Calls Try.prog 70 #[.func (.func 93) #[] #[.pointer (some ⟨Bs, 0, none⟩)]] w fun e W' => ∃ a cap, e = .returned (.slice a zs.length cap) ∧ W'.ownsRow w.heap.size 3 1 (.slice a zs.length cap) zs.length ((srt zs).map (Value.int .i64)) ∧ Below w.heap.size w W' := by
  have C := Lib.hid (collect_any hl hBs hcB hI)
  clear hBs hcB hI
  go_enter Try.func70, Try.ntmps70
  go_wp2_with fail
  refine C.out.mono ?_
  clear C
  rintro e w2 ⟨a, cap, rfl, ow, bl⟩
  have S := Lib.hid (sort_own2 ow hl bl.size)
  have BL := Lib.hid bl
  clear ow bl
  go_wp2_with fail
  refine S.out.mono ?_
  clear S
  rintro e w3 ⟨rfl, ow3, bl3⟩
  have OW := Lib.hid ow3
  have B3 := Lib.hid (BL.out.trans bl3)
  clear ow3 bl3
  go_wp2_with fail
  go_ret
  exact ⟨a, cap, rfl, OW.out, B3.out⟩

set_option maxRecDepth 100000 in
set_option maxHeartbeats 400000 in
theorem noVar_any (v : Int) (w : World) : Calls Try.prog 68 #[.int .i64 v] w fun e w' => e = .returned (.bool (!decide (0 ≤ v ∧ v < 16))) ∧ w' = w := by
  have C := Lib.hid (isVar_any v w)
  generalize decide (0 ≤ v ∧ v < 16) = b at *
  go_enter Try.func68, Try.ntmps68
  go_wp2_with fail
  refine C.out.mono ?_
  rintro e w2 ⟨rfl, rfl⟩
  go_wp2_with fail
  go_ret
  exact ⟨rfl, rfl⟩

def JxR (zs : List Int) (n : Nat) (w : World) (iv : Value) (wr : World) : Prop :=
  ∃ k : Nat, k ≤ n ∧ iv = .int .i64 k ∧ (∀ i : Nat, i < k → 0 ≤ zs.getD i 0 ∧ zs.getD i 0 < 16) ∧ wr = w

def JxPost (zs : List Int) (w : World) (e : Ending) (w' : World) : Prop :=
  ∃ x : Int, e = .returned (.int .i64 x) ∧ (0 ≤ x ↔ ¬ ∀ z ∈ zs, 0 ≤ z ∧ z < 16) ∧ w' = w

theorem getI_mem {zs : List Int} {k : Nat} (h : k < zs.length) : zs.getD k 0 ∈ zs := by
  rw [List.getD_eq_getElem?_getD, List.getElem?_eq_getElem h]; exact List.getElem_mem h

set_option maxRecDepth 100000 in
set_option maxHeartbeats 1000000 in
theorem jx_any {w : World} {zs : List Int} {a : Option Addr} {n cap : Nat} (hd : IAt w zs a) (hn : zs.length = n) (hl : n ≤ 9223372036854775807) :
    Calls Try.prog 91 #[.slice a n cap, .func (.func 68) #[] #[]] w (JxPost zs w) := by
  have HD := Lib.hid hd; clear hd
  have HN := Lib.hid hn; clear hn
  go_enter Try.func91, Try.ntmps91
  go_wp2_with fail
  go_loopw [8] (fun iv wr => JxR zs n w iv wr) (fun iv _ => n - (intOf iv).toNat)
  case atStart => exact ⟨0, by omega, rfl, fun i hi => absurd hi (by omega), rfl⟩
  case round =>
    obtain ⟨k, hk, rfl, f1, rfl⟩ := hrel
    have F1 := Lib.hid f1; clear f1
    by_cases hkn : k < n
    · have j1 : (k : Int) < (n : Int) := by omega
      have hkd : k < zs.length := by rw [HN.out]; exact hkn
      obtain ⟨bd, od, rfl, d1⟩ := HD.out (by intro e; rw [e] at hkd; simp at hkd)
      have p1 := d1 k hkd
      clear d1
      obtain ⟨v, hx⟩ : ∃ x, zs.getD k 0 = x := ⟨_, rfl⟩
      rw [hx] at p1
      have HX := Lib.hid hx; clear hx
      have C := noVar_any v wr
      by_cases hv : 0 ≤ v ∧ v < 16
      · rw [decide_eq_true hv] at C
        have CH := Lib.hid C; clear C
        go_wp2_with fail
        refine CH.out.mono ?_
        rintro e w2 ⟨rfl, rfl⟩
        go_wp2_with fail
        go_roundw
        case rel => exact ⟨k + 1, by omega, by go_num, fun i hi => by
          rcases lt_succ hi with e | e
          · exact F1.out i e
          · rw [e, HX.out]; exact hv, rfl⟩
        case measure => simp [intOf]; omega
      · rw [decide_eq_false hv] at C
        have CH := Lib.hid C; clear C
        go_wp2_with fail
        refine CH.out.mono ?_
        rintro e w2 ⟨rfl, rfl⟩
        go_wp2_with fail
        go_ret
        exact ⟨k, rfl, ⟨fun _ h => hv (by rw [← HX.out]; exact h _ (getI_mem hkd)), fun _ => by omega⟩, rfl⟩
    · go_wp2_with fail
      go_ret
      exact ⟨-1, rfl, ⟨fun h => absurd h (by omega), fun h => absurd (fun z hz => by
        obtain ⟨i, hi, rfl⟩ := List.getElem_of_mem hz
        have := F1.out i (by rw [HN.out] at hi; omega)
        rw [List.getD_eq_getElem?_getD, List.getElem?_eq_getElem hi] at this
        exact this) h⟩, rfl⟩

open Classical in
set_option maxRecDepth 100000 in
set_option maxHeartbeats 400000 in
theorem someNoVar_any {w : World} {zs : List Int} {a : Option Addr} {n cap : Nat} (hd : IAt w zs a) (hn : zs.length = n) (hl : n ≤ 9223372036854775807) :
    Calls Try.prog 67 #[.slice a n cap, .func (.func 68) #[] #[]] w fun e w' => e = .returned (.bool (decide (¬ ∀ z ∈ zs, 0 ≤ z ∧ z < 16))) ∧ w' = w := by
  have C := Lib.hid (jx_any (cap := cap) hd hn hl)
  clear hd hn
  go_enter Try.func67, Try.ntmps67
  go_wp2_with fail
  refine C.out.mono ?_
  rintro e w2 ⟨x, rfl, hx, rfl⟩
  have HX := Lib.hid hx; clear hx
  go_wp2_with fail
  go_ret
  refine ⟨?_, rfl⟩
  by_cases h : ¬ ∀ z ∈ zs, 0 ≤ z ∧ z < 16
  · have := HX.out.2 h
    rw [decide_eq_true h]
    simp [this]
  · have : ¬ 0 ≤ x := fun e => h (HX.out.1 e)
    rw [decide_eq_false h]
    simp [this]

end Go.Proofs.Ythhogbligfmpdaa
