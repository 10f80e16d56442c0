/- SameDiagram. -/
import Derived.Test.YthhogbligfmpdaaWv
set_option linter.unusedVariables false
set_option linter.unusedSimpArgs false
namespace Go.Proofs.Ythhogbligfmpdaa
open Go.RowKit Bd

theorem nd_ext {O1 O2 : List Nd} (hl : O1.length = O2.length) (h : ∀ i : Nat, i < O1.length → nd O1 i = nd O2 i) : O1 = O2 := by
  refine List.ext_getElem hl fun i h1 h2 => ?_
  have := h i h1
  unfold nd at this
  simp only [Int.toNat_natCast] at this
  rw [List.getD_eq_getElem?_getD, List.getD_eq_getElem?_getD, List.getElem?_eq_getElem h1, List.getElem?_eq_getElem h2] at this
  exact this

@[go_sem] theorem eqg77 : Try.prog.eqGuardType Try.prog.depth 77 = false := by kernel_rfl
def SdR (O1 O2 : List Nd) (w : World) (iv : Value) (wr : World) : Prop :=
  ∃ i : Nat, iv = .int .i64 i ∧ i ≤ O1.length ∧ (∀ j : Nat, j < i → nd O1 j = nd O2 j) ∧ Qt w wr

def SdPost (w : World) (b : Bool) (e : Ending) (w' : World) : Prop := e = .returned (.bool b) ∧ Below w.heap.size w w'

set_option maxRecDepth 100000 in
set_option maxHeartbeats 1000000 in
theorem same_eq {w : World} {O1 O2 : List Nd} {a1 a2 : Option Addr} {n c1 c2 : Nat} {r : Int} (h1 : DAt w O1 a1) (h2 : DAt w O2 a2) (l1 : n ≤ 1000000) (e1 : O1.length = n) (e2 : O2.length = n) :
    Calls Try.prog 18 #[.agg #[.slice a1 n c1, .int .i64 r], .agg #[.slice a2 n c2, .int .i64 r]] w (SdPost w (decide (O1 = O2))) := by
  obtain ⟨x1, x2, x3, x4⟩ := two_new w (.cells #[.slice a1 n c1, .int .i64 r] 27) (.cells #[.slice a2 n c2, .int .i64 r] 27) _ rfl
  have X1 := Lib.hid x1; clear x1
  have X2 := Lib.hid x2; clear x2
  have X3 := Lib.hid x3; clear x3
  have X4 := Lib.hid x4; clear x4
  have H1 := Lib.hid (h1.below X4.out)
  have H2 := Lib.hid (h2.below X4.out)
  clear h1 h2
  have E1 := Lib.hid e1; clear e1
  have E2 := Lib.hid e2; clear e2
  go_enter Try.func18, Try.ntmps18
  go_wp2_with fail
  generalize (w.alloc (.cells #[.slice a1 n c1, .int .i64 r] 27)).alloc (.cells #[.slice a2 n c2, .int .i64 r] 27) = w1 at *
  go_loopw [5] (fun iv wr => SdR O1 O2 w1 iv wr) (fun iv _ => n - (intOf iv).toNat)
  case atStart => exact ⟨0, rfl, by omega, fun j hj => absurd hj (by omega), ⟨0, rfl⟩⟩
  case round =>
    obtain ⟨i, rfl, f1, f2, f3⟩ := hrel
    have F2 := Lib.hid f2; clear f2
    have F3 := Lib.hid f3; clear f3
    rw [E1.out] at f1
    obtain ⟨y0, y1, _⟩ := cells2 (F3.out.block.trans X1.out)
    obtain ⟨z0, z1, _⟩ := cells2 (F3.out.block.trans X2.out)
    by_cases hi : i < n
    · have i1 : (i : Int) < (n : Int) := by omega
      have hi1 : i < O1.length := by rw [E1.out]; exact hi
      have hi2 : i < O2.length := by rw [E2.out]; exact hi
      obtain ⟨b1, o1, rfl, d1⟩ := H1.out (by intro e; rw [e] at hi1; simp at hi1)
      obtain ⟨b2, o2, rfl, d2⟩ := H2.out (by intro e; rw [e] at hi2; simp at hi2)
      obtain ⟨p1, p2, p3⟩ := kid_cells F3.out.below (d1 i hi1)
      obtain ⟨q1, q2, q3⟩ := kid_cells F3.out.below (d2 i hi2)
      clear d1 d2 hi1 hi2
      obtain ⟨⟨v1, s1, t1⟩, hn1⟩ : ∃ x, nd O1 i = x := ⟨_, rfl⟩
      obtain ⟨⟨v2, s2, t2⟩, hn2⟩ : ∃ x, nd O2 i = x := ⟨_, rfl⟩
      rw [hn1] at p1 p2 p3
      rw [hn2] at q1 q2 q3
      have HN1 := Lib.hid hn1; clear hn1
      have HN2 := Lib.hid hn2; clear hn2
      simp only at p1 p2 p3 q1 q2 q3
      by_cases hn : nd O1 i = nd O2 i
      · have he : (v1, s1, t1) = (v2, s2, t2) := by rw [← HN1.out, ← HN2.out, hn]
        injection he with g1 g2
        injection g2 with g2 g3
        subst g1
        subst g2
        subst g3
        have HN := Lib.hid hn
        clear hn
        go_wp2_with fail
        go_quiet (fail)
        go_wp2_with fail
        go_roundw
        case rel => exact ⟨i + 1, by go_num, by rw [E1.out]; omega, fun j hj => by
          rcases Nat.lt_succ_iff_lt_or_eq.1 hj with h | h
          · exact F2.out j h
          · rw [h]; exact HN.out, F3.out.drewN _⟩
        case measure => simp [intOf]; omega
      · have he : ¬ ((v1, s1, t1) = (v2, s2, t2)) := by rw [← HN1.out, ← HN2.out]; exact hn
        have HN := Lib.hid hn
        clear hn
        have PO : ∀ k, Hid (SdPost w (decide (O1 = O2)) (.returned (.bool false)) (wr.drewN k)) := by
          intro k
          refine ⟨?_, X4.out.trans ((F3.out.drewN _).below.mono X4.out.size)⟩
          rw [decide_eq_false]
          intro e; exact HN.out (by rw [e])
        have PO := Lib.hid PO
        by_cases g1 : v1 = v2
        · subst g1
          by_cases g2 : s1 = s2
          · subst g2
            have g3 : ¬ t1 = t2 := fun e => he (by rw [e])
            clear he
            go_wp2_with fail
            go_quiet (fail)
            go_wp2_with fail
            go_ret
            exact (PO.out _).out
          · clear he
            go_wp2_with fail
            go_quiet (fail)
            go_wp2_with fail
            go_ret
            exact (PO.out _).out
        · clear he
          go_wp2_with fail
          go_quiet (fail)
          go_wp2_with fail
          go_ret
          exact (PO.out _).out
    · go_wp2_with fail
      go_ret
      refine ⟨?_, X4.out.trans (F3.out.below.mono X4.out.size)⟩
      rw [decide_eq_true (nd_ext (by rw [E1.out, E2.out]) fun j hj => F2.out j (by rw [E1.out] at hj; omega))]
      rfl

set_option maxRecDepth 100000 in
set_option maxHeartbeats 1000000 in
theorem same_ne {w : World} {a1 a2 : Option Addr} {n1 n2 c1 c2 : Nat} {r1 r2 : Int} (hne : n1 ≠ n2 ∨ r1 ≠ r2) (l1 : n1 ≤ 1000000) (l2 : n2 ≤ 1000000) :
    Calls Try.prog 18 #[.agg #[.slice a1 n1 c1, .int .i64 r1], .agg #[.slice a2 n2 c2, .int .i64 r2]] w (SdPost w false) := by
  obtain ⟨x1, x2, x3, x4⟩ := two_new w (.cells #[.slice a1 n1 c1, .int .i64 r1] 27) (.cells #[.slice a2 n2 c2, .int .i64 r2] 27) _ rfl
  have X4 := Lib.hid x4
  clear x1 x2 x3 x4
  by_cases hn : n1 = n2
  · subst hn
    have hr : (r1 != r2) = true := by simpa using hne
    clear hne
    go_enter Try.func18, Try.ntmps18
    go_wp2_with fail
    go_ret
    exact ⟨rfl, X4.out⟩
  · have hi : ¬ ((n1 : Int) = (n2 : Int)) := by omega
    clear hne
    go_enter Try.func18, Try.ntmps18
    go_wp2_with fail
    go_ret
    exact ⟨rfl, X4.out⟩

/-- SameDiagram. -/
theorem same_any {w : World} {O1 O2 : List Nd} {a1 a2 : Option Addr} {c1 c2 : Nat} {r1 r2 : Int} (h1 : DAt w O1 a1) (h2 : DAt w O2 a2) (l1 : O1.length ≤ 1000000) (l2 : O2.length ≤ 1000000) :
    Calls Try.prog 18 #[.agg #[.slice a1 O1.length c1, .int .i64 r1], .agg #[.slice a2 O2.length c2, .int .i64 r2]] w (SdPost w (decide (O1 = O2 ∧ r1 = r2))) := by
  by_cases h : O1.length ≠ O2.length ∨ r1 ≠ r2
  · have : decide (O1 = O2 ∧ r1 = r2) = false := by
      rw [decide_eq_false]
      rintro ⟨rfl, rfl⟩
      simp at h
    rw [this]
    exact same_ne h l1 l2
  · have hl : O1.length = O2.length := by omega
    have hr : r1 = r2 := by omega
    have e : decide (O1 = O2 ∧ r1 = r2) = decide (O1 = O2) := by simp [hr]
    rw [e, hr, ← hl]
    exact same_eq h1 h2 l1 rfl hl.symm

end Go.Proofs.Ythhogbligfmpdaa
