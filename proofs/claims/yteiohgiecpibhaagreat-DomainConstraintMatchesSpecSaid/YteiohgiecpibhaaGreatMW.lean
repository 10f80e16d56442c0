/- Shapes of kinds of constraints, relations, sums. -/
import Derived.Test.YteiohgiecpibhaaGreatMI
import Derived.Test.YteiohgiecpibhaaGreatME
set_option linter.unusedVariables false
set_option linter.unusedSimpArgs false
set_option maxRecDepth 100000
set_option maxHeartbeats 4000000
namespace Go.Proofs.YteiohgiecpibhaaGreat
open Go.RowKit Fdm

/-- What fields a kind uses. -/
structure Shp where
  least : Int
  most : Int
  coefs : Bool
  needs : Bool
  rel : Bool
  bound : Bool
  tuples : Bool
def Shp.v (s : Shp) : Value := .agg #[.int .i64 s.least, .int .i64 s.most, .bool s.coefs, .bool s.needs, .bool s.rel, .bool s.bound, .bool s.tuples]
def shF (k : Int) : Shp :=
  if k = 1 then ⟨1, 16, true, false, true, true, false⟩ else
  if k = 2 then ⟨2, 2, false, false, false, true, false⟩ else
  if k = 3 then ⟨1, 16, false, false, false, false, false⟩ else
  if k = 4 then ⟨3, 16, false, false, false, false, false⟩ else
  if k = 5 then ⟨1, 16, false, false, false, false, true⟩ else
  if k = 6 then ⟨3, 3, false, false, false, false, false⟩ else
  if k = 7 then ⟨2, 16, false, false, false, true, false⟩ else
  if k = 8 then ⟨2, 16, false, false, false, true, false⟩ else
  if k = 9 then ⟨1, 16, true, true, false, true, false⟩ else
  if k = 10 then ⟨2, 16, true, false, true, true, false⟩ else ⟨0, 0, false, false, false, false, false⟩
def kndF (k : Int) : Bool := decide (1 ≤ k) && decide (k ≤ 10)
theorem knd_cases {k : Int} (h : kndF k = true) : k = 1 ∨ k = 2 ∨ k = 3 ∨ k = 4 ∨ k = 5 ∨ k = 6 ∨ k = 7 ∨ k = 8 ∨ k = 9 ∨ k = 10 := by
  simp [kndF] at h; omega
theorem shape_any (k : Int) (w : World) : Calls Tryz.prog 55 #[.int .i64 k] w fun e w' => e = .returned (.tuple #[(shF k).v, .bool (kndF k)]) ∧ Below w.heap.size w w' := by
  by_cases hk : kndF k = true
  · rcases knd_cases hk with rfl | rfl | rfl | rfl | rfl | rfl | rfl | rfl | rfl | rfl
    all_goals
      go_enter Tryz.func55, Tryz.ntmps55
      go_wp2_with fail
      exact bodyPost_ret (by simp [results, Tryz.results55, go_sem]; exact ⟨rfl, rfl⟩) rfl ⟨rfl, below_new _ _⟩
  · have h1 : k ≠ 1 := by rintro rfl; exact hk rfl
    have h2 : k ≠ 2 := by rintro rfl; exact hk rfl
    have h3 : k ≠ 3 := by rintro rfl; exact hk rfl
    have h4 : k ≠ 4 := by rintro rfl; exact hk rfl
    have h5 : k ≠ 5 := by rintro rfl; exact hk rfl
    have h6 : k ≠ 6 := by rintro rfl; exact hk rfl
    have h7 : k ≠ 7 := by rintro rfl; exact hk rfl
    have h8 : k ≠ 8 := by rintro rfl; exact hk rfl
    have h9 : k ≠ 9 := by rintro rfl; exact hk rfl
    have h10 : k ≠ 10 := by rintro rfl; exact hk rfl
    have E : Hid (Value.tuple #[(shF k).v, .bool (kndF k)] = .tuple #[.agg #[.int .i64 0, .int .i64 0, .bool false, .bool false, .bool false, .bool false, .bool false], .bool false]) := by
      exact Lib.hid (by rw [Bool.not_eq_true _ |>.mp hk]; simp [shF, Shp.v, *])
    rw [E.out]
    clear hk
    go_enter Tryz.func55, Tryz.ntmps55
    go_wp2_with fail
    exact bodyPost_ret (by simp [results, Tryz.results55, go_sem]) rfl ⟨rfl, below_new _ _⟩

def wiF (n lo hi : Int) : Bool := decide (lo ≤ n) && decide (n ≤ hi)
theorem within53_any (n lo hi : Int) (w : World) : Calls Tryz.prog 53 #[.int .i64 n, .int .i64 lo, .int .i64 hi] w fun e w' => e = .returned (.bool (wiF n lo hi)) ∧ w' = w := by
  by_cases h1 : lo ≤ n
  · by_cases h2 : n ≤ hi
    · have E : wiF n lo hi = true := by simp [wiF, h1, h2]
      rw [E]
      go_enter Tryz.func53, Tryz.ntmps53
      go_wp2_with fail
      go_ret
      exact ⟨by simp [h1, h2], rfl⟩
    · have E : wiF n lo hi = false := by simp [wiF, h1, h2]
      rw [E]
      go_enter Tryz.func53, Tryz.ntmps53
      go_wp2_with fail
      go_ret
      exact ⟨by simp [h1, h2], rfl⟩
  · have E : wiF n lo hi = false := by simp [wiF, h1]
    rw [E]
    go_enter Tryz.func53, Tryz.ntmps53
    go_wp2_with fail
    go_ret
    exact ⟨by simp [h1], rfl⟩
def arF (k n : Int) : Bool := decide ((shF k).least ≤ n) && decide (n ≤ (shF k).most)
theorem arity_any (k n : Int) (hk : kndF k = true) (w : World) : Calls Tryz.prog 59 #[.int .i64 k, .int .i64 n] w fun e w' => e = .returned (.bool (arF k n)) ∧ w' = w := by
  have W53 := Lib.hid (within53_any)
  have A : Hid (∀ n : Int, decide (n = 2) = (decide ((2:Int) ≤ n) && decide (n ≤ 2))) := by
    intro n; rw [← Bool.decide_and]; exact decide_eq_decide.2 (by omega)
  have B : Hid (∀ n : Int, decide (n = 3) = (decide ((3:Int) ≤ n) && decide (n ≤ 3))) := by
    intro n; rw [← Bool.decide_and]; exact decide_eq_decide.2 (by omega)
  rcases knd_cases hk with rfl | rfl | rfl | rfl | rfl | rfl | rfl | rfl | rfl | rfl
  all_goals
    clear hk
    go_enter Tryz.func59, Tryz.ntmps59
    go_wp2_with (go_at_call 53; refine (W53.out _ _ _ _).mono ?_; rintro e w' ⟨rfl, hw⟩; have hw := hw.symm; subst hw)
    go_ret
    refine ⟨?_, rfl⟩
    first | rfl | (show Ending.returned (Value.bool (decide (n = 2))) = _; rw [A.out]; rfl) | (show Ending.returned (Value.bool (decide (n = 3))) = _; rw [B.out]; rfl)
end Go.Proofs.YteiohgiecpibhaaGreat
set_option linter.unusedVariables false
set_option linter.unusedSimpArgs false
set_option maxRecDepth 100000
set_option maxHeartbeats 4000000
namespace Go.Proofs.YteiohgiecpibhaaGreat
open Go.RowKit Fdm

def reF (s r b : Int) : Bool := if r = 1 then decide (s ≤ b) else if r = 3 then s == b else s != b
theorem related_any (s r b : Int) (w : World) : Calls Tryz.prog 87 #[.int .i64 s, .int .i64 r, .int .i64 b] w fun e w' => e = .returned (.bool (reF s r b)) ∧ w' = w := by
  by_cases h1 : r = 1
  · subst h1
    go_enter Tryz.func87, Tryz.ntmps87
    go_wp2_with fail
    go_ret
    exact ⟨rfl, rfl⟩
  · by_cases h3 : r = 3
    · subst h3
      go_enter Tryz.func87, Tryz.ntmps87
      go_wp2_with fail
      go_ret
      exact ⟨rfl, rfl⟩
    · have E : reF s r b = (s != b) := by simp [reF, h1, h3]
      rw [E]
      have d1 : (r == 1) = false := by simpa using h1
      have d3 : (r == 3) = false := by simpa using h3
      go_enter Tryz.func87, Tryz.ntmps87
      go_wp2_with fail
      go_ret
      exact ⟨rfl, rfl⟩
theorem compared_any (s r b : Int) (w : World) : Calls Tryz.prog 79 #[.int .i64 s, .int .i64 r, .int .i64 b] w fun e w' => e = .returned (.bool (reF s r b)) ∧ w' = w := by
  by_cases h1 : r = 1
  · subst h1
    go_enter Tryz.func79, Tryz.ntmps79
    go_wp2_with fail
    go_ret
    exact ⟨rfl, rfl⟩
  · by_cases h3 : r = 3
    · subst h3
      go_enter Tryz.func79, Tryz.ntmps79
      go_wp2_with fail
      go_ret
      exact ⟨rfl, rfl⟩
    · have E : reF s r b = (s != b) := by simp [reF, h1, h3]
      rw [E]
      have d1 : (r == 1) = false := by simpa using h1
      have d3 : (r == 3) = false := by simpa using h3
      go_enter Tryz.func79, Tryz.ntmps79
      go_wp2_with fail
      go_ret
      exact ⟨rfl, rfl⟩
end Go.Proofs.YteiohgiecpibhaaGreat
set_option linter.unusedVariables false
set_option linter.unusedSimpArgs false
set_option maxRecDepth 100000
set_option maxHeartbeats 4000000
namespace Go.Proofs.YteiohgiecpibhaaGreat
open Go.RowKit Fdm

/-- The sum of the first k products. -/
def suF (l x : List Int) : Nat → Int
  | 0 => 0
  | k + 1 => suF l x k + l.getD k 0 * x.getD k 0
def SuL (w : World) (l x : List Int) (v5 v10 : Value) (wr : World) : Prop := ∃ k : Nat, k ≤ l.length ∧ v10 = .int .i64 (k : Int) ∧ v5 = .int .i64 (suF l x k) ∧ wr = w
/-- Numbers whose products and sums fit. -/
def SuOk (l x : List Int) (n : Nat) : Prop := ∀ k, k < n → IntKind.i64.wrap (l.getD k 0 * x.getD k 0) = l.getD k 0 * x.getD k 0 ∧ IntKind.i64.wrap (suF l x k + l.getD k 0 * x.getD k 0) = suF l x (k + 1)
theorem sum_any {w : World} {l x : List Int} {a b : Option Addr} {n c m d : Nat} (h : InA w l a) (hn : l.length = n) (h0 : n ≤ c) (h1 : c ≤ 9223372036854775807) (g : InA w x b) (gm : x.length = m) (g0 : m ≤ d) (g1 : d ≤ 9223372036854775807) (hm : n ≤ m) (ok : SuOk l x n) :
    Calls Tryz.prog 80 #[.slice a n c, .slice b m d] w fun e w' => e = .returned (.int .i64 (suF l x n)) ∧ w' = w := by
  have H := Lib.hid h; have N := Lib.hid hn; have G := Lib.hid g; have M := Lib.hid gm; have OK := Lib.hid ok
  clear h hn g gm ok
  go_enter Tryz.func80, Tryz.ntmps80
  go_wp2_with fail
  go_loopw [5, 10] (fun v5 v10 wr => SuL w l x v5 v10 wr) (fun v5 v10 _ => n - (intOf v10).toNat)
  case atStart => exact ⟨0, Nat.zero_le _, rfl, rfl, rfl⟩
  obtain ⟨k, hk, rfl, rfl, rfl⟩ := hrel
  rw [N.out] at hk
  by_cases hlt : k < n
  · obtain ⟨gl, ol, rfl, dd⟩ := H.out (by intro e; have := N.out; rw [e] at this; simp at this; omega)
    have p0 := dd k (by rw [N.out]; exact hlt)
    clear dd
    obtain ⟨gx, ox, rfl, dd⟩ := G.out (by intro e; have := M.out; rw [e] at this; simp at this; omega)
    have p1 := dd k (by rw [M.out]; omega)
    clear dd
    obtain ⟨o1, o2⟩ := OK.out k hlt
    obtain ⟨s, hs⟩ : ∃ s, suF l x k = s := ⟨_, rfl⟩
    obtain ⟨s', hs'⟩ : ∃ s', suF l x (k + 1) = s' := ⟨_, rfl⟩
    obtain ⟨u, hu⟩ : ∃ u, l.getD k 0 = u := ⟨_, rfl⟩
    obtain ⟨v, hv⟩ : ∃ v, x.getD k 0 = v := ⟨_, rfl⟩
    rw [hu] at p0 o1 o2
    rw [hv] at p1 o1 o2
    rw [hs, hs'] at o2
    rw [hs]
    have HS := Lib.hid hs'
    have wi : IntKind.i64.wrap ((k : Int) + 1) = (k : Int) + 1 := wrap_in (by omega) (by omega)
    have kc : k < m := by omega
    clear hs hs' hu hv
    go_wp2_with fail
    go_roundw
    case rel => exact ⟨k + 1, by rw [N.out]; omega, by go_num, by rw [HS.out], rfl⟩
    simp [intOf]; omega
  · obtain rfl : n = k := by omega
    go_wp2_with fail
    go_ret
    exact ⟨rfl, rfl⟩
end Go.Proofs.YteiohgiecpibhaaGreat
