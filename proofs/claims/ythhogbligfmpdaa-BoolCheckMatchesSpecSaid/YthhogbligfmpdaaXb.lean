/- varsFault. -/
import Derived.Test.YthhogbligfmpdaaXa
set_option linter.unusedVariables false
set_option linter.unusedSimpArgs false
namespace Go.Proofs.Ythhogbligfmpdaa
open Go.RowKit Bd

set_option maxRecDepth 100000 in
set_option maxHeartbeats 400000 in
theorem vf1_any {w : World} {b : Nat} {v l h vars : Int} (hb : w.cell? ⟨b, 0, none⟩ = some (.int .i64 vars)) :
    Calls Try.prog 86 #[.agg #[.int .i64 v, .int .i64 l, .int .i64 h], .pointer (some ⟨b, 0, none⟩)] w fun e w' => e = .returned (.bool (decide (vars ≤ v))) ∧ Below w.heap.size w w' := by
  have B : Hid (Below w.heap.size w (w.alloc (.cells #[.int .i64 v, .int .i64 l, .int .i64 h] 77))) := (Below.refl _ _).alloc (Nat.le_refl _) _
  have lt := lt_of_cell hb
  simp only at lt
  go_enter Try.func86, Try.ntmps86
  go_wp2_with fail
  go_ret
  exact ⟨rfl, B.out⟩

def IxR (ds : List Nd) (vars : Int) (n : Nat) (w : World) (iv : Value) (wr : World) : Prop :=
  ∃ k : Nat, k ≤ n ∧ iv = .int .i64 k ∧ (∀ i : Nat, i < k → ¬ vars ≤ (nd ds i).1) ∧ Below w.heap.size w wr

def IxPost (ds : List Nd) (vars : Int) (w : World) (e : Ending) (w' : World) : Prop :=
  ∃ x : Int, e = .returned (.int .i64 x) ∧ (0 ≤ x ↔ ∃ i : Nat, i < ds.length ∧ vars ≤ (nd ds i).1) ∧ Below w.heap.size w w'

set_option maxRecDepth 100000 in
set_option maxHeartbeats 1000000 in
theorem ix_any {w : World} {ds : List Nd} {a : Option Addr} {n cap b : Nat} {vars : Int} (hd : DAt w ds a) (hn : ds.length = n) (hl : n ≤ 9223372036854775807) (hb : w.cell? ⟨b, 0, none⟩ = some (.int .i64 vars)) :
    Calls Try.prog 99 #[.slice a n cap, .func (.func 86) #[] #[.pointer (some ⟨b, 0, none⟩)]] w (IxPost ds vars w) := by
  have HD := Lib.hid hd; clear hd
  have HN := Lib.hid hn; clear hn
  have lt := lt_of_cell hb
  simp only at lt
  go_enter Try.func99, Try.ntmps99
  go_wp2_with fail
  go_loopw [8] (fun iv wr => IxR ds vars n w iv wr) (fun iv _ => n - (intOf iv).toNat)
  case atStart => exact ⟨0, by omega, rfl, fun i hi => absurd hi (by omega), Below.refl _ _⟩
  case round =>
    obtain ⟨k, hk, rfl, f1, f2⟩ := hrel
    have F1 := Lib.hid f1; clear f1
    have F2 := Lib.hid f2; clear f2
    by_cases hkn : k < n
    · have j1 : (k : Int) < (n : Int) := by omega
      have hkd : k < ds.length := by rw [HN.out]; exact hkn
      obtain ⟨bd, od, rfl, d1⟩ := HD.out (by intro e; rw [e] at hkd; simp at hkd)
      obtain ⟨p1, p2, p3⟩ := kid_cells F2.out (d1 k hkd)
      clear d1
      obtain ⟨⟨v, l, h⟩, hx⟩ : ∃ x, nd ds k = x := ⟨_, rfl⟩
      rw [hx] at p1 p2 p3
      simp only at p1 p2 p3
      have HX := Lib.hid hx; clear hx
      have hbw := (F2.out.cell (p := ⟨b, 0, none⟩) lt).trans hb
      have C := vf1_any (v := v) (l := l) (h := h) hbw
      by_cases hv : vars ≤ v
      · rw [decide_eq_true hv] at C
        have CH := Lib.hid C; clear C
        go_wp2_with fail
        refine CH.out.mono ?_
        rintro e w2 ⟨rfl, hb2⟩
        go_wp2_with fail
        go_ret
        exact ⟨k, rfl, ⟨fun _ => ⟨k, hkd, by rw [HX.out]; exact hv⟩, fun _ => by omega⟩, Below.over F2.out F2.out.size hb2⟩
      · rw [decide_eq_false hv] at C
        have CH := Lib.hid C; clear C
        go_wp2_with fail
        refine CH.out.mono ?_
        rintro e w2 ⟨rfl, hb2⟩
        have HB2 := Lib.hid hb2; clear hb2
        go_wp2_with fail
        go_roundw
        case rel => exact ⟨k + 1, by omega, by go_num, fun i hi => by
          rcases lt_succ hi with e | e
          · have := F1.out i e; omega
          · rw [e, HX.out]; show ¬ vars ≤ v; omega, Below.over F2.out F2.out.size HB2.out⟩
        case measure => simp [intOf]; omega
    · go_wp2_with fail
      go_ret
      exact ⟨-1, rfl, ⟨fun h => absurd h (by omega), fun ⟨i, hi, hv⟩ => by have := F1.out i (by rw [HN.out] at hi; omega); omega⟩, F2.out⟩

open Classical in
set_option maxRecDepth 100000 in
set_option maxHeartbeats 400000 in
theorem cf_any {w : World} {ds : List Nd} {a : Option Addr} {n cap b : Nat} {vars : Int} (hd : DAt w ds a) (hn : ds.length = n) (hl : n ≤ 9223372036854775807) (hb : w.cell? ⟨b, 0, none⟩ = some (.int .i64 vars)) :
    Calls Try.prog 85 #[.slice a n cap, .func (.func 86) #[] #[.pointer (some ⟨b, 0, none⟩)]] w fun e w' => e = .returned (.bool (decide (∃ i : Nat, i < ds.length ∧ vars ≤ (nd ds i).1))) ∧ Below w.heap.size w w' := by
  have C := Lib.hid (ix_any (cap := cap) hd hn hl hb)
  clear hd hn
  go_enter Try.func85, Try.ntmps85
  go_wp2_with fail
  refine C.out.mono ?_
  rintro e w2 ⟨x, rfl, hx, hb2⟩
  have HX := Lib.hid hx; clear hx
  have HB := Lib.hid hb2; clear hb2
  go_wp2_with fail
  go_ret
  refine ⟨?_, HB.out⟩
  by_cases h : ∃ i : Nat, i < ds.length ∧ vars ≤ (nd ds i).1
  · have := HX.out.2 h
    rw [decide_eq_true h]
    simp [this]
  · have : ¬ 0 ≤ x := fun e => h (HX.out.1 e)
    rw [decide_eq_false h]
    simp [this]

end Go.Proofs.Ythhogbligfmpdaa
