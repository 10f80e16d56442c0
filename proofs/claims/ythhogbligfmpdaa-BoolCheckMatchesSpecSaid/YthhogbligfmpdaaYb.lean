/- BoolCheckMatchesSpec: the law's function. -/
import Derived.Test.YthhogbligfmpdaaYa
set_option linter.unusedVariables false
set_option linter.unusedSimpArgs false
namespace Go.Proofs.Ythhogbligfmpdaa
open Go.RowKit Bd
set_option maxRecDepth 100000 in
set_option maxHeartbeats 1000000 in
theorem law8_any {w : World} {ds : List Nd} {a : Option Addr} {n cap : Nat} {root : Int} (hd : DAt w ds a) (hn : ds.length = n) (hl : n ≤ 9223372036854775807) :
    Calls Try.prog 8 #[.agg #[.slice a n cap, .int .i64 root]] w fun e w' => e = .returned (.bool true) ∧ Below w.heap.size w w' := by
  have N1 := Lib.hid (heap_alloc_new w (.cells #[.slice a n cap, .int .i64 root] 27))
  have B1 : Hid (Below w.heap.size w (w.alloc (.cells #[.slice a n cap, .int .i64 root] 27))) := (Below.refl _ _).alloc (Nat.le_refl _) _
  have S1 : Hid ((w.alloc (.cells #[.slice a n cap, .int .i64 root] 27)).heap.size = w.heap.size + 1) := by show _ = _; simp
  have CF := Lib.hid (fun (W : World) (h : Below w.heap.size w W) => fault_any (cap := cap) (root := root) (hd.below h) hn hl)
  have CS := Lib.hid (fun (W : World) (h : Below w.heap.size w W) => Support_any (cap := cap) (root := root) (hd.below h) hn hl)
  have CK := Lib.hid (fun (W : World) (h : Below w.heap.size w W) => check_any (cap := cap) (root := root) (hd.below h) hn hl)
  go_enter Try.func8, Try.ntmps8
  go_wp2_with fail
  generalize w.alloc (.cells #[.slice a n cap, .int .i64 root] 27) = w1 at *
  refine (CF.out w1 B1.out).mono ?_
  rintro e w2 ⟨rfl, bl2⟩
  have B2 := Lib.hid (Below.over B1.out B1.out.size bl2)
  have P2 := Lib.hid ((bl2.block w.heap.size (by rw [S1.out]; omega)).trans N1.out)
  have z2 : w.heap.size < w2.heap.size := by have := bl2.size; rw [S1.out] at this; omega
  clear bl2
  obtain ⟨y0, y1, _⟩ := cells2 P2.out
  go_wp2_with fail
  refine (CS.out w2 B2.out).mono ?_
  clear y0 y1
  rintro e w3 ⟨a3, k3, rfl, ia3, bl3⟩
  have IA3 := Lib.hid ia3; clear ia3
  have B3 := Lib.hid (Below.over B2.out B2.out.size bl3)
  have P3 := Lib.hid ((bl3.block w.heap.size z2).trans P2.out)
  have z3 : w.heap.size < w3.heap.size := by have := bl3.size; omega
  clear bl3
  obtain ⟨y0, y1, _⟩ := cells2 P3.out
  have FIN := Lib.hid (fun (W : World) (h : Below w.heap.size w W) => (built_any W).mono fun e W' (x : e = .returned (.bool true) ∧ Below W.heap.size W W') => (⟨x.1, Below.over h h.size x.2⟩ : e = .returned (.bool true) ∧ Below w.heap.size w W'))
  by_cases hc : chk ds root = 0
  · have RS := Lib.hid (fun (W : World) (h : Below w.heap.size w W) => supports_any (cap := cap) (root := root) (hd.below h) hn (by obtain ⟨q1, _⟩ := chk_zero hc; omega))
    have es : supE ds root = sup ds := by unfold supE; rw [if_pos hc]
    have sl := sup_le ds
    rw [es] at IA3
    rw [es, hc]
    have HC := Lib.hid hc; clear hc es
    go_wp2_with fail
    refine (CK.out w3 B3.out).mono ?_
    rintro e w4 ⟨rfl, bl4⟩
    rw [HC.out]
    have IA4 := Lib.hid (IA3.out.below bl4)
    have B4 := Lib.hid (Below.over B3.out B3.out.size bl4)
    have P4 := Lib.hid ((bl4.block w.heap.size z3).trans P3.out)
    clear bl4 y0 y1
    obtain ⟨y0, y1, _⟩ := cells2 P4.out
    go_wp2_with fail
    refine (RS.out w4 B4.out).mono ?_
    rintro e w5 ⟨a5, k5, rfl, ia5, bl5⟩
    have SI := Lib.hid (sameInts_true (c1 := k3) (c2 := k5) (IA4.out.below bl5) ia5 rfl (by omega))
    have B5 := Lib.hid (Below.over B4.out B4.out.size bl5)
    clear bl5 ia5 y0 y1
    go_wp2_with fail
    refine SI.out.mono ?_
    rintro e w6 ⟨rfl, hq⟩
    have B6 := Lib.hid (Below.over B5.out B5.out.size hq.below); clear hq
    go_wp2_with fail
    refine (FIN.out _ B6.out).mono ?_
    rintro e w8 ⟨rfl, bl8⟩
    have B8 := Lib.hid bl8; clear bl8
    go_wp2_with fail
    go_ret
    exact ⟨rfl, B8.out⟩
  · have es : supE ds root = [] := by unfold supE; rw [if_neg hc]
    have hne : (chk ds root != 0) = true := by rw [bne_iff_ne]; exact hc
    rw [es]
    have ln : ([] : List Int).length = 0 := rfl
    rw [ln]
    clear es ln
    go_wp2_with fail
    refine (CK.out w3 B3.out).mono ?_
    rintro e w4 ⟨rfl, bl4⟩
    have B4 := Lib.hid (Below.over B3.out B3.out.size bl4)
    clear bl4 y0 y1
    go_wp2_with fail
    refine (FIN.out _ B4.out).mono ?_
    rintro e w8 ⟨rfl, bl8⟩
    have B8 := Lib.hid bl8; clear bl8
    go_wp2_with fail
    go_ret
    exact ⟨rfl, B8.out⟩
end Go.Proofs.Ythhogbligfmpdaa
