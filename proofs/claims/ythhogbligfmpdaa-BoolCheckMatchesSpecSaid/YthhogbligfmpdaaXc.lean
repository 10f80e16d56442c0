/- varsFault and Count. -/
import Derived.Test.YthhogbligfmpdaaXb
set_option linter.unusedVariables false
set_option linter.unusedSimpArgs false
namespace Go.Proofs.Ythhogbligfmpdaa
open Go.RowKit Bd

open Classical in
noncomputable def vErr (ds : List Nd) (r vars : Int) : Int := if chk ds r ≠ 0 then chk ds r else if vars < 0 ∨ 16 < vars ∨ ∃ i : Nat, i < ds.length ∧ vars ≤ (nd ds i).1 then 1 else 0

theorem vErr_chk {ds : List Nd} {r vars : Int} (h : chk ds r ≠ 0) : vErr ds r vars = chk ds r := by unfold vErr; rw [if_pos h]
theorem vErr_one {ds : List Nd} {r vars : Int} (h : chk ds r = 0) (h1 : vars < 0 ∨ 16 < vars ∨ ∃ i : Nat, i < ds.length ∧ vars ≤ (nd ds i).1) : vErr ds r vars = 1 := by unfold vErr; rw [if_neg (by simpa using h), if_pos h1]
theorem vErr_zero {ds : List Nd} {r vars : Int} (h : chk ds r = 0) (h1 : ¬ (vars < 0 ∨ 16 < vars ∨ ∃ i : Nat, i < ds.length ∧ vars ≤ (nd ds i).1)) : vErr ds r vars = 0 := by unfold vErr; rw [if_neg (by simpa using h), if_neg h1]

set_option maxRecDepth 100000 in
set_option maxHeartbeats 400000 in
theorem vf_any {w : World} {ds : List Nd} {a : Option Addr} {n cap : Nat} {root vars : Int} (hd : DAt w ds a) (hn : ds.length = n) (hl : n ≤ 9223372036854775807) :
    Calls Try.prog 57 #[.agg #[.slice a n cap, .int .i64 root], .int .i64 vars] w (CdPost w (vErr ds root vars)) := by
  obtain ⟨x1, x2, x3, x4⟩ := two_new w (.cells #[.slice a n cap, .int .i64 root] 27) (.cells #[.int .i64 vars] 3) _ rfl
  have X1 := Lib.hid x1; clear x1
  have X2 := Lib.hid x2; clear x2
  have X3 := Lib.hid x3; clear x3
  have X4 := Lib.hid x4; clear x4
  have HD := Lib.hid hd; clear hd
  have C := Lib.hid (check_any (cap := cap) (root := root) (HD.out.below X4.out) hn hl)
  have HN := Lib.hid hn; clear hn
  go_enter Try.func57, Try.ntmps57
  go_wp2_with fail
  generalize (w.alloc (.cells #[.slice a n cap, .int .i64 root] 27)).alloc (.cells #[.int .i64 vars] 3) = w1 at *
  refine C.out.mono ?_
  clear C
  rintro e w2 ⟨rfl, hb⟩
  have B2 := Lib.hid (Below.over X4.out X4.out.size hb)
  have b1 := Lib.hid ((hb.block _ (by rw [X3.out]; omega)).trans X1.out)
  have b2 := Lib.hid ((hb.block _ (by rw [X3.out]; omega)).trans X2.out)
  clear hb
  obtain ⟨y0, y1, _⟩ := cells2 b1.out
  have z0 : w2.cell? ⟨w.heap.size + 1, 0, none⟩ = some (.int .i64 vars) := by simp [World.cell?, b2.out]
  obtain ⟨ck, hck⟩ : ∃ ck, chk ds root = ck := ⟨_, rfl⟩
  by_cases hc : ck = 0
  · have HC : Hid (chk ds root = 0) := by rw [hck]; exact hc
    rw [hck, hc]
    clear hck hc
    by_cases q1 : vars < 0
    · have E := Lib.hid (vErr_one (ds := ds) (r := root) (vars := vars) HC.out (Or.inl q1))
      go_wp2_with fail
      go_ret
      exact ⟨by rw [E.out]; rfl, B2.out⟩
    · by_cases q2 : 16 < vars
      · have E := Lib.hid (vErr_one (ds := ds) (r := root) (vars := vars) HC.out (Or.inr (Or.inl q2)))
        go_wp2_with fail
        go_ret
        exact ⟨by rw [E.out]; rfl, B2.out⟩
      · have CF := cf_any (cap := cap) (HD.out.below B2.out) HN.out hl z0
        by_cases q3 : ∃ i : Nat, i < ds.length ∧ vars ≤ (nd ds i).1
        · have E := Lib.hid (vErr_one (ds := ds) (r := root) (vars := vars) HC.out (Or.inr (Or.inr q3)))
          rw [decide_eq_true q3] at CF
          have CFH := Lib.hid CF; clear CF q3
          go_wp2_with fail
          refine CFH.out.mono ?_
          rintro e w3 ⟨rfl, hb3⟩
          go_wp2_with fail
          go_ret
          exact ⟨by rw [E.out]; rfl, Below.over B2.out B2.out.size hb3⟩
        · have E := Lib.hid (vErr_zero (ds := ds) (r := root) (vars := vars) HC.out (fun e => e.elim q1 (fun e => e.elim q2 q3)))
          rw [decide_eq_false q3] at CF
          have CFH := Lib.hid CF; clear CF q3
          go_wp2_with fail
          refine CFH.out.mono ?_
          rintro e w3 ⟨rfl, hb3⟩
          go_wp2_with fail
          go_ret
          exact ⟨by rw [E.out]; rfl, Below.over B2.out B2.out.size hb3⟩
  · have E := Lib.hid ((vErr_chk (ds := ds) (r := root) (vars := vars) (by rw [hck]; exact hc)).trans hck)
    rw [hck]
    clear hck
    have hcb : (ck != 0) = true := by simpa using hc
    go_wp2_with fail
    go_ret
    exact ⟨by rw [E.out]; rfl, B2.out⟩

end Go.Proofs.Ythhogbligfmpdaa
