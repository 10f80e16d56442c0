/- slices.Equal of nodes. -/
import Derived.Test.YthhogbligfmpdaaWw
set_option linter.unusedVariables false
set_option linter.unusedSimpArgs false
namespace Go.Proofs.Ythhogbligfmpdaa
open Go.RowKit Bd

theorem lt_succ {j i : Nat} (h : j < i + 1) : j < i ∨ j = i := by omega

set_option maxRecDepth 100000 in
set_option maxHeartbeats 1000000 in
theorem equal_eq {w : World} {O1 O2 : List Nd} {a1 a2 : Option Addr} {n c1 c2 : Nat} (h1 : DAt w O1 a1) (h2 : DAt w O2 a2) (l1 : n ≤ 1000000) (e1 : O1.length = n) (e2 : O2.length = n) :
    Calls Try.prog 64 #[.slice a1 n c1, .slice a2 n c2] w fun e w' => e = .returned (.bool (decide (O1 = O2))) ∧ ∃ q, w' = w.drewN q := by
  have H1 := Lib.hid h1
  have H2 := Lib.hid h2
  clear h1 h2
  have E1 := Lib.hid e1; clear e1
  have E2 := Lib.hid e2; clear e2
  go_enter Try.func64, Try.ntmps64
  go_wp2_with fail
  go_loopw [13] (fun iv wr => SdR O1 O2 w iv wr) (fun iv _ => n - (intOf iv).toNat)
  case atStart => exact ⟨0, rfl, by omega, fun j hj => absurd hj (by omega), ⟨0, rfl⟩⟩
  case round =>
    obtain ⟨i, rfl, f1, f2, f3⟩ := hrel
    have F2 := Lib.hid f2; clear f2
    have F3 := Lib.hid f3; clear f3
    rw [E1.out] at f1
    by_cases hi : i < n
    · have i1 : (i : Int) < (n : Int) := by omega
      have hi1 : i < O1.length := by rw [E1.out]; exact hi
      have hi2 : i < O2.length := by rw [E2.out]; exact hi
      obtain ⟨b1, o1, rfl, d1⟩ := H1.out (by intro e; rw [e] at hi1; simp at hi1)
      obtain ⟨b2, o2, rfl, d2⟩ := H2.out (by intro e; rw [e] at hi2; simp at hi2)
      obtain ⟨p1, p2, p3⟩ := kid_cells F3.out.below (d1 i hi1)
      obtain ⟨q1, q2, q3⟩ := kid_cells F3.out.below (d2 i hi2)
      clear d1 d2 hi1 hi2
      obtain ⟨⟨v1, s1, t1⟩, hn1⟩ : ∃ x, nd O1 i = x := ⟨_, rfl⟩
      obtain ⟨⟨v2, s2, t2⟩, hn2⟩ : ∃ x, nd O2 i = x := ⟨_, rfl⟩
      rw [hn1] at p1 p2 p3
      rw [hn2] at q1 q2 q3
      have HN1 := Lib.hid hn1; clear hn1
      have HN2 := Lib.hid hn2; clear hn2
      simp only at p1 p2 p3 q1 q2 q3
      by_cases hn : nd O1 i = nd O2 i
      · have he : (v1, s1, t1) = (v2, s2, t2) := by rw [← HN1.out, ← HN2.out, hn]
        injection he with g1 g2
        injection g2 with g2 g3
        subst g1
        subst g2
        subst g3
        have HN := Lib.hid hn
        clear hn
        go_wp2_with fail
        go_quiet (fail)
        go_wp2_with fail
        go_roundw
        case rel => exact ⟨i + 1, by go_num, by rw [E1.out]; omega, fun j hj => by
          rcases lt_succ hj with h | h
          · exact F2.out j h
          · rw [h]; exact HN.out, F3.out.drewN _⟩
        case measure => simp [intOf]; omega
      · have he : ¬ ((v1, s1, t1) = (v2, s2, t2)) := by rw [← HN1.out, ← HN2.out]; exact hn
        have HN := Lib.hid hn
        clear hn
        have PO : ∀ k, Hid ((Ending.returned (.bool false) = .returned (.bool (decide (O1 = O2)))) ∧ ∃ q, wr.drewN k = w.drewN q) := by
          intro k
          refine ⟨?_, F3.out.drewN k⟩
          rw [decide_eq_false]
          intro e; exact HN.out (by rw [e])
        have PO := Lib.hid PO
        by_cases g1 : v1 = v2
        · subst g1
          by_cases g2 : s1 = s2
          · subst g2
            have g3 : ¬ t1 = t2 := fun e => he (by rw [e])
            clear he
            go_wp2_with fail
            go_quiet (fail)
            go_wp2_with fail
            go_ret
            exact (PO.out _).out
          · clear he
            go_wp2_with fail
            go_quiet (fail)
            go_wp2_with fail
            go_ret
            exact (PO.out _).out
        · clear he
          go_wp2_with fail
          go_quiet (fail)
          go_wp2_with fail
          go_ret
          exact (PO.out _).out
    · go_wp2_with fail
      go_ret
      refine ⟨?_, F3.out⟩
      rw [decide_eq_true (nd_ext (by rw [E1.out, E2.out]) fun j hj => F2.out j (by rw [E1.out] at hj; omega))]
      rfl

set_option maxRecDepth 100000 in
set_option maxHeartbeats 1000000 in
theorem equal_ne {w : World} {a1 a2 : Option Addr} {n1 n2 c1 c2 : Nat} (hn : n1 ≠ n2) (l1 : n1 ≤ 1000000) (l2 : n2 ≤ 1000000) :
    Calls Try.prog 64 #[.slice a1 n1 c1, .slice a2 n2 c2] w fun e w' => e = .returned (.bool false) ∧ ∃ q, w' = w.drewN q := by
  have hi : ¬ ((n1 : Int) = (n2 : Int)) := by omega
  clear hn
  go_enter Try.func64, Try.ntmps64
  go_wp2_with fail
  go_ret
  exact ⟨rfl, 0, rfl⟩

theorem equal_any {w : World} {O1 O2 : List Nd} {a1 a2 : Option Addr} {c1 c2 : Nat} (h1 : DAt w O1 a1) (h2 : DAt w O2 a2) (l1 : O1.length ≤ 1000000) (l2 : O2.length ≤ 1000000) :
    Calls Try.prog 64 #[.slice a1 O1.length c1, .slice a2 O2.length c2] w fun e w' => e = .returned (.bool (decide (O1 = O2))) ∧ ∃ q, w' = w.drewN q := by
  by_cases h : O1.length = O2.length
  · rw [← h]
    exact equal_eq h1 h2 l1 rfl h.symm
  · have : decide (O1 = O2) = false := by
      rw [decide_eq_false]
      rintro rfl
      exact h rfl
    rw [this]
    exact equal_ne h l1 l2

end Go.Proofs.Ythhogbligfmpdaa
