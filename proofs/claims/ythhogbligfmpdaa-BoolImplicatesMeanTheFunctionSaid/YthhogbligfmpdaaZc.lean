/- The law BoolImplicatesMatchSpec: its walk. -/
import Derived.Test.YthhogbligfmpdaaZb
import Derived.Test.YthhogbligfmpdaaXe
set_option linter.unusedVariables false
set_option linter.unusedSimpArgs false
namespace Go.Proofs.Ythhogbligfmpdaa
open Go.RowKit Bd

theorem icL_len (ds : List Nd) (r : Int) : (icL ds r).length ≤ 500 ∧ ∀ l ∈ icL ds r, l.length ≤ 16 := by
  unfold icL
  split
  · rename_i h
    unfold icE at h
    split at h
    · rename_i h2; exact absurd h h2
    · split at h
      · omega
      · rename_i h2 h3
        refine ⟨by omega, fun l hl => ?_⟩
        have := sel_len (((prs_prl (sup_vs ds)).mem l).1 hl).1
        have := sup_le ds
        omega
  · simp

set_option maxRecDepth 100000 in
set_option maxHeartbeats 1000000 in
theorem law11_any {w : World} {da : List Nd} {aa : Option Addr} {n ca : Nat} {ra : Int} (hda : DAt w da aa) (hn : da.length = n) (hl : n ≤ 9223372036854775807) :
    Calls Try.prog 11 #[.agg #[.slice aa n ca, .int .i64 ra]] w fun e w' => e = .returned (.bool true) ∧ Below w.heap.size w w' := by
  have BB1 : Hid (Below w.heap.size w (w.alloc (.cells #[.slice aa n ca, .int .i64 ra] 27))) := (Below.refl _ _).alloc (Nat.le_refl _) _
  have SS0 : Hid ((w.alloc (.cells #[.slice aa n ca, .int .i64 ra] 27)).heap.size = w.heap.size + 1) := by show _ = _; simp
  have X := Lib.hid (heap_alloc_new w (.cells #[.slice aa n ca, .int .i64 ra] 27))
  have C1 := Lib.hid (implicates_any (cap := ca) (root := ra) (hda.below BB1.out) hn hl)
  have C2 := Lib.hid (fun (W : World) (h : Below w.heap.size w W) => primes_any (cap := ca) (root := ra) (hda.below h) hn hl)
  clear hda hn
  obtain ⟨q1, q2⟩ := icL_len da ra
  have Q2 : Hid (∀ l ∈ icL da ra, l.length ≤ 1000000) := fun l h => Nat.le_trans (q2 l h) (by omega)
  clear q2
  generalize icE da ra = er at *
  generalize icL da ra = LS at *
  go_enter Try.func11, Try.ntmps11
  go_wp2_with fail
  generalize w.alloc (.cells #[.slice aa n ca, .int .i64 ra] 27) = w1 at *
  refine C1.out.mono ?_
  clear C1
  rintro e w2 ⟨a2, c2, rfl, la2, bl2⟩
  have L2 := Lib.hid la2; clear la2
  have B2 := Lib.hid (Below.over BB1.out BB1.out.size bl2)
  obtain ⟨y0, y1, _⟩ := cells2 ((bl2.block w.heap.size (by rw [SS0.out]; omega)).trans X.out)
  clear bl2 BB1 SS0 X
  go_wp2_with fail
  refine (C2.out w2 B2.out).mono ?_
  clear C2 y0 y1
  rintro e w3 ⟨a3, c3, rfl, la3, bl3⟩
  have B3 := Lib.hid (Below.over B2.out B2.out.size bl3)
  have C28 := Lib.hid (sameLists_true (c1 := c2) (c2 := c3) (L2.out.below bl3) la3 rfl (by omega) Q2.out)
  clear bl3 la3 L2 B2
  generalize LS.length = nl at *
  go_wp2_with fail
  refine C28.out.mono ?_
  clear C28
  rintro e w4 ⟨rfl, hq⟩
  have B4 := Lib.hid (Below.over B3.out B3.out.size hq.below)
  clear hq
  go_wp2_with fail
  refine (built_any w4).mono ?_
  rintro e w5 ⟨rfl, bl5⟩
  have B5 := Lib.hid (Below.over B4.out B4.out.size bl5)
  clear bl5
  go_wp2_with fail
  go_ret
  exact ⟨rfl, B5.out⟩

end Go.Proofs.Ythhogbligfmpdaa
