/- What it means that values satisfy a constraint; fits, loads, listed. -/
import Derived.Test.YteiohgiecpibhaaGreatNA
import Derived.Test.YteiohgiecpibhaaGreatMW
set_option linter.unusedVariables false
set_option linter.unusedSimpArgs false
set_option maxRecDepth 100000
set_option maxHeartbeats 4000000
namespace Go.Proofs.YteiohgiecpibhaaGreat
open Go.RowKit Fdm

/-- The load at time t of the first i tasks. -/
def ldS (F D x : List Int) (t : Int) : Nat → Int
  | 0 => 0
  | i + 1 => ldS F D x t i + (if x.getD i 0 ≤ t ∧ t < x.getD i 0 + F.getD i 0 then D.getD i 0 else 0)
/-- How many of the m numbers behind the first are bd. -/
def cnU (bd : Int) (x : List Int) : Nat → Int
  | 0 => 0
  | m + 1 => cnU bd x m + (if x.getD (m + 1) 0 = bd then 1 else 0)
/-- The least, or greatest, of the second number and the m numbers behind the first. -/
def beU (bd : Int) (x : List Int) : Nat → Int
  | 0 => x.getD 1 0
  | m + 1 => if (bd = 0 ∧ x.getD (m + 1) 0 < beU bd x m) ∨ (bd = 1 ∧ beU bd x m < x.getD (m + 1) 0) then x.getD (m + 1) 0 else beU bd x m
def ldF (F D x : List Int) (bd : Int) (n : Nat) : Bool := (List.range n).all (fun j => decide (ldS F D x (x.getD j 0) n ≤ bd))
/-- Values satisfy a constraint. -/
def hoF (k rel bd : Int) (F D : List Int) (T : List (List Int)) (x : List Int) : Bool :=
  if k = 1 then reF (suF F x x.length) rel bd
  else if k = 10 then (x.getD 0 0 == 1 && reF (suF F (x.drop 1) (x.length - 1)) rel bd) || (x.getD 0 0 == 0 && !reF (suF F (x.drop 1) (x.length - 1)) rel bd)
  else if k = 2 then x.getD 0 0 == x.getD 1 0 + bd
  else if k = 4 then decide (0 ≤ x.getD 0 0) && decide (x.getD 0 0 ≤ (x.length : Int) - 3) && x.getD (2 + (x.getD 0 0).toNat) 0 == x.getD 1 0
  else if k = 6 then x.getD 0 0 * x.getD 1 0 == x.getD 2 0
  else if k = 9 then ldF F D x bd x.length
  else if k = 3 then decide x.Nodup
  else if k = 5 then T.contains x
  else if k = 8 then x.getD 0 0 == cnU bd x (x.length - 1)
  else x.getD 0 0 == beU bd x (x.length - 1)
def Sm (l : List Int) (b : Int) : Prop := ∀ i, i < l.length → -b ≤ l.getD i 0 ∧ l.getD i 0 ≤ b
theorem mul_in {a b : Int} (A B : Nat) (h1 : -(A : Int) ≤ a) (h2 : a ≤ A) (h3 : -(B : Int) ≤ b) (h4 : b ≤ B) : -((A * B : Nat) : Int) ≤ a * b ∧ a * b ≤ ((A * B : Nat) : Int) := by
  have e : (a * b).natAbs ≤ A * B := by rw [Int.natAbs_mul]; exact Nat.mul_le_mul (by omega) (by omega)
  omega
theorem su_le {F x : List Int} {n : Nat} (hF : ∀ i, i < n → -100000 ≤ F.getD i 0 ∧ F.getD i 0 ≤ 100000) (hx : ∀ i, i < n → -16384 ≤ x.getD i 0 ∧ x.getD i 0 ≤ 16384) : ∀ k, k ≤ n → -(k * 1638400000 : Int) ≤ suF F x k ∧ suF F x k ≤ k * 1638400000 := by
  intro k hk
  induction k with
  | zero => simp [suF]
  | succ k ih =>
    have := ih (by omega)
    obtain ⟨a1, a2⟩ := hF k (by omega)
    obtain ⟨b1, b2⟩ := hx k (by omega)
    have m := mul_in 100000 16384 (by omega) (by omega) (by omega) (by omega) (a := F.getD k 0) (b := x.getD k 0)
    have e : suF F x (k + 1) = suF F x k + F.getD k 0 * x.getD k 0 := rfl
    generalize F.getD k 0 * x.getD k 0 = p at *
    generalize suF F x k = q at *
    rw [e]
    push_cast
    omega
theorem su_ok {F x : List Int} {n : Nat} (hF : ∀ i, i < n → -100000 ≤ F.getD i 0 ∧ F.getD i 0 ≤ 100000) (hx : ∀ i, i < n → -16384 ≤ x.getD i 0 ∧ x.getD i 0 ≤ 16384) (hn : n ≤ 16) : SuOk F x n := by
  intro k hk
  obtain ⟨a1, a2⟩ := hF k (by omega)
  obtain ⟨b1, b2⟩ := hx k (by omega)
  have m := mul_in 100000 16384 (by omega) (by omega) (by omega) (by omega) (a := F.getD k 0) (b := x.getD k 0)
  have s := su_le hF hx k (by omega)
  have e : suF F x (k + 1) = suF F x k + F.getD k 0 * x.getD k 0 := rfl
  generalize F.getD k 0 * x.getD k 0 = p at *
  generalize suF F x k = q at *
  rw [e]
  exact ⟨wrap_in (by omega) (by omega), wrap_in (by omega) (by omega)⟩
theorem ld_le {F D x : List Int} {t : Int} {n : Nat} (hD : ∀ i, i < n → 0 ≤ D.getD i 0 ∧ D.getD i 0 ≤ 100000) : ∀ k, k ≤ n → 0 ≤ ldS F D x t k ∧ ldS F D x t k ≤ k * 100000 := by
  intro k hk
  induction k with
  | zero => simp [ldS]
  | succ k ih =>
    have := ih (by omega)
    have := hD k (by omega)
    have e : ldS F D x t (k + 1) = ldS F D x t k + (if x.getD k 0 ≤ t ∧ t < x.getD k 0 + F.getD k 0 then D.getD k 0 else 0) := rfl
    rw [e]
    push_cast
    split <;> omega
theorem cn_le {bd : Int} {x : List Int} : ∀ k, 0 ≤ cnU bd x k ∧ cnU bd x k ≤ k := by
  intro k
  induction k with
  | zero => simp [cnU]
  | succ k ih =>
    have e : cnU bd x (k + 1) = cnU bd x k + (if x.getD (k + 1) 0 = bd then 1 else 0) := rfl
    rw [e]; push_cast; split <;> omega
/-- A constraint without fault, of n variables. -/
structure Hok (k rel bd : Int) (F D : List Int) (T : List (List Int)) (n : Nat) : Prop where
  hk : kndF k = true
  ar : arF k n = true
  fo : foF k rel bd n F.length D.length T = true
  ra : raF k rel bd F D T = true
theorem Hok.parts {k rel bd : Int} {F D : List Int} {T : List (List Int)} {n : Nat} (h : Hok k rel bd F D T n) : raRl k rel = true ∧ F.all (raCo k) = true ∧ D.all raNe = true ∧ T.all (fun t => !t.any ouF) = true ∧ raB k bd = true := by
  have := h.ra
  simp only [raF, Bool.and_eq_true] at this
  obtain ⟨⟨⟨⟨a, b⟩, c⟩, d⟩, e⟩ := this
  exact ⟨a, b, c, d, e⟩
theorem all_at {α : Type} {l : List α} {d : α} {p : α → Bool} (h : l.all p = true) (i : Nat) (hi : i < l.length) : p (l.getD i d) = true := by
  rw [List.all_eq_true] at h
  rw [List.getD_eq_getElem?_getD, List.getElem?_eq_getElem hi]
  exact h _ (List.getElem_mem hi)
theorem Hok.f {k rel bd : Int} {F D : List Int} {T : List (List Int)} {n : Nat} (h : Hok k rel bd F D T n) : ∀ i, i < F.length → -100000 ≤ F.getD i 0 ∧ F.getD i 0 ≤ 100000 := by
  intro i hi
  have := all_at (d := 0) h.parts.2.1 i hi
  simp only [raCo, wiF, Bool.and_eq_true, decide_eq_true_eq] at this
  obtain ⟨⟨a, b⟩, -⟩ := this
  refine ⟨?_, b⟩
  split at a <;> omega
theorem Hok.d {k rel bd : Int} {F D : List Int} {T : List (List Int)} {n : Nat} (h : Hok k rel bd F D T n) : ∀ i, i < D.length → 0 ≤ D.getD i 0 ∧ D.getD i 0 ≤ 100000 := by
  intro i hi
  have := all_at (d := 0) h.parts.2.2.1 i hi
  simp only [raNe, wiF, Bool.and_eq_true, decide_eq_true_eq] at this
  exact this
theorem Hok.b {k rel bd : Int} {F D : List Int} {T : List (List Int)} {n : Nat} (h : Hok k rel bd F D T n) : -1099511627776 ≤ bd ∧ bd ≤ 1099511627776 ∧ (k = 2 → -16384 ≤ bd ∧ bd ≤ 16384) ∧ (k = 7 → bd = 0 ∨ bd = 1) := by
  have := h.parts.2.2.2.2
  simp only [raB] at this
  split at this
  · simp [wiF] at this; omega
  · split at this
    · simp [wiF] at this; omega
    · split at this
      · simp [wiF] at this; omega
      · simp [wiF] at this; omega
theorem Hok.le {k rel bd : Int} {F D : List Int} {T : List (List Int)} {n : Nat} (h : Hok k rel bd F D T n) : n ≤ 16 := ar_le h.hk h.ar
theorem Hok.co {k rel bd : Int} {F D : List Int} {T : List (List Int)} {n : Nat} (h : Hok k rel bd F D T n) : (F.length : Int) = coF k n ∧ D.length = (if k = 9 then n else 0) := by
  obtain ⟨a, b, -, -⟩ := fo_facts h.fo
  exact ⟨a, b⟩
theorem Hok.tu {k rel bd : Int} {F D : List Int} {T : List (List Int)} {n : Nat} (h : Hok k rel bd F D T n) : ∀ i, i < T.length → (T.getD i []).length = n := by
  obtain ⟨-, -, -, c⟩ := fo_facts h.fo
  intro i hi
  exact of_decide_eq_true (all_at (d := []) c i hi)
end Go.Proofs.YteiohgiecpibhaaGreat
set_option linter.unusedVariables false
set_option linter.unusedSimpArgs false
set_option maxRecDepth 100000
set_option maxHeartbeats 4000000
namespace Go.Proofs.YteiohgiecpibhaaGreat
open Go.RowKit Fdm

def FiL (F D x : List Int) (bd : Int) (n : Nat) (W0 : World) (v : Value) (wr : World) : Prop := ∃ j : Nat, j ≤ n ∧ v = .int .i64 (j : Int) ∧ (∀ u, u < j → ldS F D x (x.getD u 0) n ≤ bd) ∧ Below W0.heap.size W0 wr
def FiM (F D x : List Int) (t : Int) (n : Nat) (W0 : World) (v7 v8 : Value) (wr : World) : Prop := ∃ i : Nat, i ≤ n ∧ v8 = .int .i64 (i : Int) ∧ v7 = .int .i64 (ldS F D x t i) ∧ Below W0.heap.size W0 wr
theorem ldF_yes {F D x : List Int} {bd : Int} {n : Nat} (h : ∀ u, u < n → ldS F D x (x.getD u 0) n ≤ bd) : ldF F D x bd n = true := by
  unfold ldF; rw [List.all_eq_true]; intro j hj; exact decide_eq_true (h j (List.mem_range.1 hj))
theorem ldF_no {F D x : List Int} {bd : Int} {n j : Nat} (hj : j < n) (h : bd < ldS F D x (x.getD j 0) n) : ldF F D x bd n = false := by
  unfold ldF; rw [List.all_eq_false]; exact ⟨j, List.mem_range.2 hj, by simp only [decide_eq_true_eq]; omega⟩
/-- The facts that both walks use. -/
structure LdOk (F D x : List Int) (n : Nat) : Prop where
  fl : F.length = n
  dl : D.length = n
  xl : x.length = n
  n16 : n ≤ 16
  f : ∀ i, i < n → -100000 ≤ F.getD i 0 ∧ F.getD i 0 ≤ 100000
  d : ∀ i, i < n → 0 ≤ D.getD i 0 ∧ D.getD i 0 ≤ 100000
  x : ∀ i, i < n → -16384 ≤ x.getD i 0 ∧ x.getD i 0 ≤ 16384
theorem fits88_any {w : World} {k rel bd : Int} {F D x : List Int} {a1 a2 a3 a6 ax : Option Addr} {n1 c1 c2 c3 n6 c6 n cx : Nat} (hF : InA w F a2) (hD : InA w D a3) (hx : InA w x ax) (ok : LdOk F D x n) (h2 : n ≤ c2) (h3 : n ≤ c3) (hc : n ≤ cx) :
    Calls Tryz.prog 88 #[.agg #[.int .i64 k, .slice a1 n1 c1, .slice a2 n c2, .slice a3 n c3, .int .i64 rel, .int .i64 bd, .slice a6 n6 c6], .slice ax n cx] w fun e w' => e = .returned (.bool (ldF F D x bd n)) ∧ Below w.heap.size w w' := by
  have OK := Lib.hid ok
  obtain ⟨z, hz⟩ : ∃ z : Bool, ldF F D x bd n = z := ⟨_, rfl⟩
  have HZ := Lib.hid hz
  rw [hz]
  clear hz ok
  obtain ⟨W0, hW0⟩ : ∃ W0, w.alloc (.cells #[.int .i64 k, .slice a1 n1 c1, .slice a2 n c2, .slice a3 n c3, .int .i64 rel, .int .i64 bd, .slice a6 n6 c6] 33) = W0 := ⟨_, rfl⟩
  have B0 : Hid (Below w.heap.size w W0) := by rw [← hW0]; exact Lib.hid (below_new _ _)
  have I0 : W0.heap[w.heap.size]? = some (.cells #[.int .i64 k, .slice a1 n1 c1, .slice a2 n c2, .slice a3 n c3, .int .i64 rel, .int .i64 bd, .slice a6 n6 c6] 33 (0, 0)) := by rw [← hW0]; exact heap_alloc_new _ _
  have p0 : W0.cell? ⟨w.heap.size, 0, none⟩ = some (.int .i64 k) := by rw [cell_of_row _ _ _ _ _ _ I0]; rfl
  have p1 : W0.cell? ⟨w.heap.size, 1, none⟩ = some (.slice a1 n1 c1) := by rw [cell_of_row _ _ _ _ _ _ I0]; rfl
  have p2 : W0.cell? ⟨w.heap.size, 2, none⟩ = some (.slice a2 n c2) := by rw [cell_of_row _ _ _ _ _ _ I0]; rfl
  have p3 : W0.cell? ⟨w.heap.size, 3, none⟩ = some (.slice a3 n c3) := by rw [cell_of_row _ _ _ _ _ _ I0]; rfl
  have p4 : W0.cell? ⟨w.heap.size, 4, none⟩ = some (.int .i64 rel) := by rw [cell_of_row _ _ _ _ _ _ I0]; rfl
  have p5 : W0.cell? ⟨w.heap.size, 5, none⟩ = some (.int .i64 bd) := by rw [cell_of_row _ _ _ _ _ _ I0]; rfl
  have p6 : W0.cell? ⟨w.heap.size, 6, none⟩ = some (.slice a6 n6 c6) := by rw [cell_of_row _ _ _ _ _ _ I0]; rfl
  clear I0
  have P0 := Lib.hid p0; have P1 := Lib.hid p1; have P2 := Lib.hid p2; have P3 := Lib.hid p3; have P4 := Lib.hid p4; have P5 := Lib.hid p5; have P6 := Lib.hid p6
  have FA : Hid (InA W0 F a2) := Lib.hid (hF.below B0.out)
  have DA : Hid (InA W0 D a3) := Lib.hid (hD.below B0.out)
  have XA : Hid (InA W0 x ax) := Lib.hid (hx.below B0.out)
  have n16 := OK.out.n16
  clear hF hD hx
  go_enter Tryz.func88, Tryz.ntmps88
  go_wp2_with fail
  go_loopw [5] (fun v wr => FiL F D x bd n W0 v wr) (fun v _ => n - (intOf v).toNat)
  case atStart => exact ⟨0, Nat.zero_le _, rfl, fun u hu => absurd hu (by omega), Below.refl _ _⟩
  obtain ⟨j, hj, rfl, hall, hB⟩ := hrel
  have HA := Lib.hid hall
  have HB := Lib.hid hB
  clear hall
  replace p0 := cell_later hB (Nat.le_refl _) P0.out
  replace p1 := cell_later hB (Nat.le_refl _) P1.out
  replace p2 := cell_later hB (Nat.le_refl _) P2.out
  replace p3 := cell_later hB (Nat.le_refl _) P3.out
  replace p4 := cell_later hB (Nat.le_refl _) P4.out
  replace p5 := cell_later hB (Nat.le_refl _) P5.out
  replace p6 := cell_later hB (Nat.le_refl _) P6.out
  by_cases jlt : j < n
  · have XB := Lib.hid (XA.out.below hB)
    have FB := Lib.hid (FA.out.below hB)
    have DB := Lib.hid (DA.out.below hB)
    clear hB
    obtain ⟨gx, ox, rfl, kx⟩ := XB.out (by intro e; have := OK.out.xl; rw [e] at this; simp at this; omega)
    have tj := kx j (by rw [OK.out.xl]; exact jlt)
    obtain ⟨t, ht⟩ : ∃ t, x.getD j 0 = t := ⟨_, rfl⟩
    rw [ht] at tj
    have HT := Lib.hid ht
    clear ht kx
    have JL := Lib.hid jlt
    have wj : IntKind.i64.wrap ((j : Int) + 1) = (j : Int) + 1 := wrap_in (by omega) (by omega)
    go_wp2_with fail
    go_loopw [7, 8] (fun v7 v8 wr => FiM F D x t n W0 v7 v8 wr) (fun v7 v8 _ => n - (intOf v8).toNat)
    case atStart => exact ⟨0, Nat.zero_le _, rfl, rfl, HB.out⟩
    obtain ⟨i, hi, rfl, rfl, hB⟩ := hrel
    have HB2 := Lib.hid hB
    clear tj
    replace p0 := cell_later hB (Nat.le_refl _) P0.out
    replace p1 := cell_later hB (Nat.le_refl _) P1.out
    replace p2 := cell_later hB (Nat.le_refl _) P2.out
    replace p3 := cell_later hB (Nat.le_refl _) P3.out
    replace p4 := cell_later hB (Nat.le_refl _) P4.out
    replace p5 := cell_later hB (Nat.le_refl _) P5.out
    replace p6 := cell_later hB (Nat.le_refl _) P6.out
    have n16 := OK.out.n16
    obtain ⟨s, hs⟩ : ∃ s, ldS F D x t i = s := ⟨_, rfl⟩
    have HS := Lib.hid hs
    have s1 := ld_le (F := F) (x := x) (t := t) OK.out.d i hi
    rw [hs] at s1
    rw [hs]
    clear hs
    obtain ⟨s1, s2⟩ := s1
    have wi : IntKind.i64.wrap ((i : Int) + 1) = (i : Int) + 1 := wrap_in (by omega) (by omega)
    have XB2 : Hid (InA wr x (some ⟨gx, ox, none⟩)) := Lib.hid (XA.out.below hB)
    have FB2 : Hid (InA wr F a2) := Lib.hid (FA.out.below hB)
    have DB2 : Hid (InA wr D a3) := Lib.hid (DA.out.below hB)
    clear hB
    by_cases ilt : i < n
    · obtain ⟨gx', ox', e1, kx⟩ := XB2.out (by intro e; have := OK.out.xl; rw [e] at this; simp at this; omega)
      obtain ⟨rfl, rfl⟩ : gx' = gx ∧ ox' = ox := by
        have := Option.some.inj e1; injection this with q1 q2; exact ⟨q1.symm, q2.symm⟩
      have ti := kx i (by rw [OK.out.xl]; exact ilt)
      obtain ⟨gf, of, rfl, kf⟩ := FB2.out (by intro e; have := OK.out.fl; rw [e] at this; simp at this; omega)
      have tf := kf i (by rw [OK.out.fl]; exact ilt)
      obtain ⟨gd, od, rfl, kd⟩ := DB2.out (by intro e; have := OK.out.dl; rw [e] at this; simp at this; omega)
      have td := kd i (by rw [OK.out.dl]; exact ilt)
      obtain ⟨y1, y2⟩ := OK.out.x i ilt
      obtain ⟨f1, f2⟩ := OK.out.f i ilt
      obtain ⟨d1, d2⟩ := OK.out.d i ilt
      have EL : Hid (ldS F D x t (i + 1) = s + (if x.getD i 0 ≤ t ∧ t < x.getD i 0 + F.getD i 0 then D.getD i 0 else 0)) := by rw [← HS.out]; exact Lib.hid rfl
      obtain ⟨y, hy⟩ : ∃ y, x.getD i 0 = y := ⟨_, rfl⟩
      obtain ⟨f, hf⟩ : ∃ f, F.getD i 0 = f := ⟨_, rfl⟩
      obtain ⟨d, hd⟩ : ∃ d, D.getD i 0 = d := ⟨_, rfl⟩
      rw [hy] at ti y1 y2 EL
      rw [hf] at tf f1 f2 EL
      rw [hd] at td d1 d2 EL
      clear hy hf hd kx kf kd e1
      have wa : IntKind.i64.wrap (y + f) = y + f := wrap_in (by omega) (by omega)
      have ws : IntKind.i64.wrap (s + d) = s + d := wrap_in (by omega) (by omega)
      have S1 : Hid (_) := Lib.hid s1
      clear y1 y2 f1 f2 d1 d2 s1 s2 n16
      by_cases q1 : y ≤ t
      · by_cases q2 : t < y + f
        · have E : Hid (ldS F D x t (i + 1) = s + d) := Lib.hid (by rw [EL.out, if_pos ⟨q1, q2⟩])
          clear EL
          go_upto_region 9 with fail
          refine Rg.s0 19 [] fun WD DW => ?_
          refine Rg.t 0 ?_
          refine Rg.t 1 ?_
          refine Rg.t 2 ?_
          refine Rg.t 3 ?_
          refine Rg.t 4 ?_
          refine Rg.t 5 ?_
          refine Rg.t 6 ?_
          go_simp
          refine Rg.t 7 ?_
          refine Rg.t 8 ?_
          refine Rg.t 9 ?_
          refine Rg.t 10 ?_
          refine Rg.t 11 ?_
          refine Rg.t 12 ?_
          refine Rg.t 13 ?_
          refine Rg.t 14 ?_
          refine Rg.t 15 ?_
          refine Rg.t 16 ?_
          refine Rg.t 17 ?_
          refine Rg.t 18 ?_
          refine Rg.l1 ?_
          go_simp
          replace p2 := cell_later DW (Nat.le_refl _) p2
          replace p3 := cell_later DW (Nat.le_refl _) p3
          replace p5 := cell_later DW (Nat.le_refl _) p5
          replace td := cell_later DW (Nat.le_refl _) td
          go_wp2_with fail
          go_roundw
          case rel => exact ⟨i + 1, by omega, by go_num, by rw [E.out], over HB2.out DW⟩
          simp [intOf]; omega
        · have E : Hid (ldS F D x t (i + 1) = s) := Lib.hid (by rw [EL.out, if_neg (fun q => q2 q.2)]; omega)
          clear EL
          go_upto_region 9 with fail
          refine Rg.s0 19 [] fun WD DW => ?_
          refine Rg.t 0 ?_
          refine Rg.t 1 ?_
          refine Rg.t 2 ?_
          refine Rg.t 3 ?_
          refine Rg.t 4 ?_
          refine Rg.t 5 ?_
          refine Rg.t 6 ?_
          go_simp
          refine Rg.t 7 ?_
          refine Rg.t 8 ?_
          refine Rg.t 9 ?_
          refine Rg.t 10 ?_
          refine Rg.t 11 ?_
          refine Rg.t 12 ?_
          refine Rg.t 13 ?_
          refine Rg.t 14 ?_
          refine Rg.t 15 ?_
          refine Rg.t 16 ?_
          refine Rg.t 17 ?_
          refine Rg.t 18 ?_
          refine Rg.l1 ?_
          go_simp
          go_wp2_with fail
          go_roundw
          case rel => exact ⟨i + 1, by omega, by go_num, by rw [E.out], over HB2.out DW⟩
          simp [intOf]; omega
      · have E : Hid (ldS F D x t (i + 1) = s) := Lib.hid (by rw [EL.out, if_neg (fun q => q1 q.1)]; omega)
        clear EL
        go_upto_region 9 with fail
        refine Rg.s0 19 [] fun WD DW => ?_
        refine Rg.t 0 ?_
        refine Rg.t 1 ?_
        refine Rg.t 2 ?_
        refine Rg.t 3 ?_
        refine Rg.t 4 ?_
        refine Rg.t 5 ?_
        refine Rg.t 6 ?_
        go_simp
        refine Rg.tx 7 ?_
        refine Rg.tx 8 ?_
        refine Rg.tx 9 ?_
        refine Rg.tx 10 ?_
        refine Rg.tx 11 ?_
        refine Rg.tx 12 ?_
        refine Rg.tx 13 ?_
        refine Rg.tx 14 ?_
        refine Rg.tx 15 ?_
        refine Rg.tx 16 ?_
        refine Rg.tx 17 ?_
        refine Rg.tx 18 ?_
        refine Rg.l1 ?_
        go_simp
        go_wp2_with fail
        go_roundw
        case rel => exact ⟨i + 1, by omega, by go_num, by rw [E.out], over HB2.out DW⟩
        simp [intOf]; omega
    · obtain rfl : n = i := by omega
      by_cases q : bd < s
      · have N := Lib.hid (ldF_no (F := F) (D := D) (x := x) (bd := bd) JL.out (by rw [HT.out, HS.out]; exact q))
        go_wp2_with fail
        go_ret
        exact ⟨by rw [← HZ.out, N.out]; rfl, over B0.out HB2.out⟩
      · have G : Hid (∀ u, u < j + 1 → ldS F D x (x.getD u 0) n ≤ bd) := Lib.hid (fun u hu => by
          by_cases e : u = j
          · subst e; rw [HT.out, HS.out]; omega
          · exact HA.out u (by omega))
        go_wp2_with fail
        go_roundw
        case rel => exact ⟨j + 1, by have := JL.out; omega, by go_num, G.out, HB2.out⟩
        simp [intOf]; have := JL.out; omega
  · obtain rfl : n = j := by omega
    have Y := Lib.hid (ldF_yes (F := F) (D := D) (x := x) (bd := bd) HA.out)
    go_wp2_with fail
    go_ret
    exact ⟨by rw [← HZ.out, Y.out]; rfl, over B0.out HB.out⟩
theorem loads86_any {w : World} {k rel bd : Int} {F D x : List Int} {a1 a2 a3 a6 ax : Option Addr} {n1 c1 c2 c3 n6 c6 n cx : Nat} (hF : InA w F a2) (hD : InA w D a3) (hx : InA w x ax) (ok : LdOk F D x n) (h2 : n ≤ c2) (h3 : n ≤ c3) (hc : n ≤ cx) :
    Calls Tryz.prog 86 #[.agg #[.int .i64 k, .slice a1 n1 c1, .slice a2 n c2, .slice a3 n c3, .int .i64 rel, .int .i64 bd, .slice a6 n6 c6], .slice ax n cx] w fun e w' => e = .returned (.bool (ldF F D x bd n)) ∧ Below w.heap.size w w' := by
  have OK := Lib.hid ok
  obtain ⟨z, hz⟩ : ∃ z : Bool, ldF F D x bd n = z := ⟨_, rfl⟩
  have HZ := Lib.hid hz
  rw [hz]
  clear hz ok
  obtain ⟨W0, hW0⟩ : ∃ W0, w.alloc (.cells #[.int .i64 k, .slice a1 n1 c1, .slice a2 n c2, .slice a3 n c3, .int .i64 rel, .int .i64 bd, .slice a6 n6 c6] 33) = W0 := ⟨_, rfl⟩
  have B0 : Hid (Below w.heap.size w W0) := by rw [← hW0]; exact Lib.hid (below_new _ _)
  have I0 : W0.heap[w.heap.size]? = some (.cells #[.int .i64 k, .slice a1 n1 c1, .slice a2 n c2, .slice a3 n c3, .int .i64 rel, .int .i64 bd, .slice a6 n6 c6] 33 (0, 0)) := by rw [← hW0]; exact heap_alloc_new _ _
  have p0 : W0.cell? ⟨w.heap.size, 0, none⟩ = some (.int .i64 k) := by rw [cell_of_row _ _ _ _ _ _ I0]; rfl
  have p1 : W0.cell? ⟨w.heap.size, 1, none⟩ = some (.slice a1 n1 c1) := by rw [cell_of_row _ _ _ _ _ _ I0]; rfl
  have p2 : W0.cell? ⟨w.heap.size, 2, none⟩ = some (.slice a2 n c2) := by rw [cell_of_row _ _ _ _ _ _ I0]; rfl
  have p3 : W0.cell? ⟨w.heap.size, 3, none⟩ = some (.slice a3 n c3) := by rw [cell_of_row _ _ _ _ _ _ I0]; rfl
  have p4 : W0.cell? ⟨w.heap.size, 4, none⟩ = some (.int .i64 rel) := by rw [cell_of_row _ _ _ _ _ _ I0]; rfl
  have p5 : W0.cell? ⟨w.heap.size, 5, none⟩ = some (.int .i64 bd) := by rw [cell_of_row _ _ _ _ _ _ I0]; rfl
  have p6 : W0.cell? ⟨w.heap.size, 6, none⟩ = some (.slice a6 n6 c6) := by rw [cell_of_row _ _ _ _ _ _ I0]; rfl
  clear I0
  have P0 := Lib.hid p0; have P1 := Lib.hid p1; have P2 := Lib.hid p2; have P3 := Lib.hid p3; have P4 := Lib.hid p4; have P5 := Lib.hid p5; have P6 := Lib.hid p6
  have FA : Hid (InA W0 F a2) := Lib.hid (hF.below B0.out)
  have DA : Hid (InA W0 D a3) := Lib.hid (hD.below B0.out)
  have XA : Hid (InA W0 x ax) := Lib.hid (hx.below B0.out)
  have n16 := OK.out.n16
  clear hF hD hx
  go_enter Tryz.func86, Tryz.ntmps86
  go_wp2_with fail
  go_loopw [12] (fun v wr => FiL F D x bd n W0 v wr) (fun v _ => n - (intOf v).toNat)
  case atStart => exact ⟨0, Nat.zero_le _, rfl, fun u hu => absurd hu (by omega), Below.refl _ _⟩
  obtain ⟨j, hj, rfl, hall, hB⟩ := hrel
  have HA := Lib.hid hall
  have HB := Lib.hid hB
  clear hall
  replace p0 := cell_later hB (Nat.le_refl _) P0.out
  replace p1 := cell_later hB (Nat.le_refl _) P1.out
  replace p2 := cell_later hB (Nat.le_refl _) P2.out
  replace p3 := cell_later hB (Nat.le_refl _) P3.out
  replace p4 := cell_later hB (Nat.le_refl _) P4.out
  replace p5 := cell_later hB (Nat.le_refl _) P5.out
  replace p6 := cell_later hB (Nat.le_refl _) P6.out
  by_cases jlt : j < n
  · have XB := Lib.hid (XA.out.below hB)
    have FB := Lib.hid (FA.out.below hB)
    have DB := Lib.hid (DA.out.below hB)
    clear hB
    obtain ⟨gx, ox, rfl, kx⟩ := XB.out (by intro e; have := OK.out.xl; rw [e] at this; simp at this; omega)
    have tj := kx j (by rw [OK.out.xl]; exact jlt)
    obtain ⟨t, ht⟩ : ∃ t, x.getD j 0 = t := ⟨_, rfl⟩
    rw [ht] at tj
    have HT := Lib.hid ht
    clear ht kx
    have JL := Lib.hid jlt
    have wj : IntKind.i64.wrap ((j : Int) + 1) = (j : Int) + 1 := wrap_in (by omega) (by omega)
    go_wp2_with fail
    go_loopw [7, 18] (fun v7 v8 wr => FiM F D x t n W0 v7 v8 wr) (fun v7 v8 _ => n - (intOf v8).toNat)
    case atStart => exact ⟨0, Nat.zero_le _, rfl, rfl, HB.out⟩
    obtain ⟨i, hi, rfl, rfl, hB⟩ := hrel
    have HB2 := Lib.hid hB
    clear tj
    replace p0 := cell_later hB (Nat.le_refl _) P0.out
    replace p1 := cell_later hB (Nat.le_refl _) P1.out
    replace p2 := cell_later hB (Nat.le_refl _) P2.out
    replace p3 := cell_later hB (Nat.le_refl _) P3.out
    replace p4 := cell_later hB (Nat.le_refl _) P4.out
    replace p5 := cell_later hB (Nat.le_refl _) P5.out
    replace p6 := cell_later hB (Nat.le_refl _) P6.out
    have n16 := OK.out.n16
    obtain ⟨s, hs⟩ : ∃ s, ldS F D x t i = s := ⟨_, rfl⟩
    have HS := Lib.hid hs
    have s1 := ld_le (F := F) (x := x) (t := t) OK.out.d i hi
    rw [hs] at s1
    rw [hs]
    clear hs
    obtain ⟨s1, s2⟩ := s1
    have wi : IntKind.i64.wrap ((i : Int) + 1) = (i : Int) + 1 := wrap_in (by omega) (by omega)
    have XB2 : Hid (InA wr x (some ⟨gx, ox, none⟩)) := Lib.hid (XA.out.below hB)
    have FB2 : Hid (InA wr F a2) := Lib.hid (FA.out.below hB)
    have DB2 : Hid (InA wr D a3) := Lib.hid (DA.out.below hB)
    clear hB
    by_cases ilt : i < n
    · obtain ⟨gx', ox', e1, kx⟩ := XB2.out (by intro e; have := OK.out.xl; rw [e] at this; simp at this; omega)
      obtain ⟨rfl, rfl⟩ : gx' = gx ∧ ox' = ox := by
        have := Option.some.inj e1; injection this with q1 q2; exact ⟨q1.symm, q2.symm⟩
      have ti := kx i (by rw [OK.out.xl]; exact ilt)
      obtain ⟨gf, of, rfl, kf⟩ := FB2.out (by intro e; have := OK.out.fl; rw [e] at this; simp at this; omega)
      have tf := kf i (by rw [OK.out.fl]; exact ilt)
      obtain ⟨gd, od, rfl, kd⟩ := DB2.out (by intro e; have := OK.out.dl; rw [e] at this; simp at this; omega)
      have td := kd i (by rw [OK.out.dl]; exact ilt)
      obtain ⟨y1, y2⟩ := OK.out.x i ilt
      obtain ⟨f1, f2⟩ := OK.out.f i ilt
      obtain ⟨d1, d2⟩ := OK.out.d i ilt
      have EL : Hid (ldS F D x t (i + 1) = s + (if x.getD i 0 ≤ t ∧ t < x.getD i 0 + F.getD i 0 then D.getD i 0 else 0)) := by rw [← HS.out]; exact Lib.hid rfl
      obtain ⟨y, hy⟩ : ∃ y, x.getD i 0 = y := ⟨_, rfl⟩
      obtain ⟨f, hf⟩ : ∃ f, F.getD i 0 = f := ⟨_, rfl⟩
      obtain ⟨d, hd⟩ : ∃ d, D.getD i 0 = d := ⟨_, rfl⟩
      rw [hy] at ti y1 y2 EL
      rw [hf] at tf f1 f2 EL
      rw [hd] at td d1 d2 EL
      clear hy hf hd kx kf kd e1
      have wa : IntKind.i64.wrap (y + f) = y + f := wrap_in (by omega) (by omega)
      have ws : IntKind.i64.wrap (s + d) = s + d := wrap_in (by omega) (by omega)
      have S1 : Hid (_) := Lib.hid s1
      clear y1 y2 f1 f2 d1 d2 s1 s2 n16
      by_cases q1 : y ≤ t
      · by_cases q2 : t < y + f
        · have E : Hid (ldS F D x t (i + 1) = s + d) := Lib.hid (by rw [EL.out, if_pos ⟨q1, q2⟩])
          clear EL
          go_wp2_with fail
          go_roundw
          case rel => exact ⟨i + 1, by omega, by go_num, by rw [E.out], HB2.out⟩
          simp [intOf]; omega
        · have E : Hid (ldS F D x t (i + 1) = s) := Lib.hid (by rw [EL.out, if_neg (fun q => q2 q.2)]; omega)
          clear EL
          go_wp2_with fail
          go_roundw
          case rel => exact ⟨i + 1, by omega, by go_num, by rw [E.out], HB2.out⟩
          simp [intOf]; omega
      · have E : Hid (ldS F D x t (i + 1) = s) := Lib.hid (by rw [EL.out, if_neg (fun q => q1 q.1)]; omega)
        clear EL
        go_wp2_with fail
        go_roundw
        case rel => exact ⟨i + 1, by omega, by go_num, by rw [E.out], HB2.out⟩
        simp [intOf]; omega
    · obtain rfl : n = i := by omega
      by_cases q : bd < s
      · have N := Lib.hid (ldF_no (F := F) (D := D) (x := x) (bd := bd) JL.out (by rw [HT.out, HS.out]; exact q))
        go_wp2_with fail
        go_ret
        exact ⟨by rw [← HZ.out, N.out]; rfl, over B0.out HB2.out⟩
      · have G : Hid (∀ u, u < j + 1 → ldS F D x (x.getD u 0) n ≤ bd) := Lib.hid (fun u hu => by
          by_cases e : u = j
          · subst e; rw [HT.out, HS.out]; omega
          · exact HA.out u (by omega))
        go_wp2_with fail
        go_roundw
        case rel => exact ⟨j + 1, by have := JL.out; omega, by go_num, G.out, HB2.out⟩
        simp [intOf]; have := JL.out; omega
  · obtain rfl : n = j := by omega
    have Y := Lib.hid (ldF_yes (F := F) (D := D) (x := x) (bd := bd) HA.out)
    go_wp2_with fail
    go_ret
    exact ⟨by rw [← HZ.out, Y.out]; rfl, over B0.out HB.out⟩
end Go.Proofs.YteiohgiecpibhaaGreat
set_option linter.unusedVariables false
set_option linter.unusedSimpArgs false
set_option maxRecDepth 100000
set_option maxHeartbeats 4000000
namespace Go.Proofs.YteiohgiecpibhaaGreat
open Go.RowKit Fdm

theorem nodup_of {x : List Int} (h : ∀ a b, a < b → b < x.length → x.getD a 0 ≠ x.getD b 0) : x.Nodup := by
  rw [List.Nodup, List.pairwise_iff_getElem]
  intro i j hi hj hij
  have := h i j hij hj
  rwa [List.getD_eq_getElem?_getD, List.getD_eq_getElem?_getD, List.getElem?_eq_getElem hi, List.getElem?_eq_getElem hj] at this
theorem not_nodup {x : List Int} {a b : Nat} (hab : a < b) (hb : b < x.length) (e : x.getD a 0 = x.getD b 0) : ¬ x.Nodup := by
  intro h
  rw [List.Nodup, List.pairwise_iff_getElem] at h
  have := h a b (by omega) hb hab
  rw [List.getD_eq_getElem?_getD, List.getD_eq_getElem?_getD, List.getElem?_eq_getElem (by omega), List.getElem?_eq_getElem hb] at e
  exact this e
theorem ext_D {x y : List Int} (hl : x.length = y.length) (h : ∀ u, u < y.length → x.getD u 0 = y.getD u 0) : x = y := by
  refine List.ext_getElem hl fun i h1 h2 => ?_
  have := h i h2
  rwa [List.getD_eq_getElem?_getD, List.getD_eq_getElem?_getD, List.getElem?_eq_getElem h1, List.getElem?_eq_getElem h2] at this
theorem contains_no {T : List (List Int)} {x : List Int} (h : ∀ u, u < T.length → T.getD u [] ≠ x) : T.contains x = false := by
  rw [Bool.eq_false_iff, Ne, List.contains_iff_mem]
  intro hm
  obtain ⟨i, hi, rfl⟩ := List.getElem_of_mem hm
  have := h i hi
  rw [List.getD_eq_getElem?_getD, List.getElem?_eq_getElem hi] at this
  exact this rfl
theorem contains_yes {T : List (List Int)} {x : List Int} {i : Nat} (hi : i < T.length) (h : T.getD i [] = x) : T.contains x = true := by
  rw [List.contains_iff_mem, ← h, List.getD_eq_getElem?_getD, List.getElem?_eq_getElem hi]
  exact List.getElem_mem hi
def LiA (x : List Int) (n : Nat) (W0 : World) (v : Value) (wr : World) : Prop := ∃ i : Nat, i ≤ n ∧ v = .int .i64 (i : Int) ∧ (∀ a b, a < b → b < i → x.getD a 0 ≠ x.getD b 0) ∧ Below W0.heap.size W0 wr
def LiB (x : List Int) (i : Nat) (W0 : World) (v : Value) (wr : World) : Prop := ∃ j : Nat, j ≤ i ∧ v = .int .i64 (j : Int) ∧ (∀ u, u < j → x.getD u 0 ≠ x.getD i 0) ∧ Below W0.heap.size W0 wr
def LiC (T : List (List Int)) (x : List Int) (W0 : World) (v : Value) (wr : World) : Prop := ∃ i : Nat, i ≤ T.length ∧ v = .int .i64 (i : Int) ∧ (∀ u, u < i → T.getD u [] ≠ x) ∧ Below W0.heap.size W0 wr
def LiD (t x : List Int) (n : Nat) (W0 : World) (v8 v9 : Value) (wr : World) : Prop := ∃ j : Nat, ∃ b : Bool, j ≤ n ∧ v9 = .int .i64 (j : Int) ∧ v8 = .bool b ∧ (b = true ↔ ∀ u, u < j → t.getD u 0 = x.getD u 0) ∧ Below W0.heap.size W0 wr
def LiE (k bd : Int) (x : List Int) (n : Nat) (W0 : World) (v10 v11 v12 : Value) (wr : World) : Prop := ∃ m : Nat, m + 1 ≤ n ∧ v12 = .int .i64 ((m : Int) + 1) ∧ v10 = .int .i64 (cnU bd x m) ∧ v11 = .int .i64 (if k = 7 then beU bd x m else x.getD 1 0) ∧ Below W0.heap.size W0 wr
theorem listed3_any {w : World} {rel bd : Int} {T : List (List Int)} {x : List Int} {a1 a2 a3 a6 ax : Option Addr} {n1 c1 n2 c2 n3 c3 n6 c6 n cx : Nat} (hx : InA w x ax) (xl : x.length = n) (n16 : n ≤ 16) (hc : n ≤ cx) :
    Calls Tryz.prog 89 #[.agg #[.int .i64 3, .slice a1 n1 c1, .slice a2 n2 c2, .slice a3 n3 c3, .int .i64 rel, .int .i64 bd, .slice a6 n6 c6], .slice ax n cx] w fun e w' => e = .returned (.bool (decide x.Nodup)) ∧ Below w.heap.size w w' := by
  obtain ⟨z, hz⟩ : ∃ z : Bool, decide x.Nodup = z := ⟨_, rfl⟩
  have HZ := Lib.hid hz
  rw [hz]
  clear hz
  obtain ⟨W0, hW0⟩ : ∃ W0, w.alloc (.cells #[.int .i64 3, .slice a1 n1 c1, .slice a2 n2 c2, .slice a3 n3 c3, .int .i64 rel, .int .i64 bd, .slice a6 n6 c6] 33) = W0 := ⟨_, rfl⟩
  have B0 : Hid (Below w.heap.size w W0) := by rw [← hW0]; exact Lib.hid (below_new _ _)
  have I0 : W0.heap[w.heap.size]? = some (.cells #[.int .i64 3, .slice a1 n1 c1, .slice a2 n2 c2, .slice a3 n3 c3, .int .i64 rel, .int .i64 bd, .slice a6 n6 c6] 33 (0, 0)) := by rw [← hW0]; exact heap_alloc_new _ _
  have p0 : W0.cell? ⟨w.heap.size, 0, none⟩ = some (.int .i64 3) := by rw [cell_of_row _ _ _ _ _ _ I0]; rfl
  have p1 : W0.cell? ⟨w.heap.size, 1, none⟩ = some (.slice a1 n1 c1) := by rw [cell_of_row _ _ _ _ _ _ I0]; rfl
  have p2 : W0.cell? ⟨w.heap.size, 2, none⟩ = some (.slice a2 n2 c2) := by rw [cell_of_row _ _ _ _ _ _ I0]; rfl
  have p3 : W0.cell? ⟨w.heap.size, 3, none⟩ = some (.slice a3 n3 c3) := by rw [cell_of_row _ _ _ _ _ _ I0]; rfl
  have p4 : W0.cell? ⟨w.heap.size, 4, none⟩ = some (.int .i64 rel) := by rw [cell_of_row _ _ _ _ _ _ I0]; rfl
  have p5 : W0.cell? ⟨w.heap.size, 5, none⟩ = some (.int .i64 bd) := by rw [cell_of_row _ _ _ _ _ _ I0]; rfl
  have p6 : W0.cell? ⟨w.heap.size, 6, none⟩ = some (.slice a6 n6 c6) := by rw [cell_of_row _ _ _ _ _ _ I0]; rfl
  clear I0
  have P0 := Lib.hid p0; have P1 := Lib.hid p1; have P2 := Lib.hid p2; have P3 := Lib.hid p3; have P4 := Lib.hid p4; have P5 := Lib.hid p5; have P6 := Lib.hid p6
  have XL := Lib.hid xl
  have XA : Hid (InA W0 x ax) := Lib.hid (hx.below B0.out)
  clear hx xl
  go_enter Tryz.func89, Tryz.ntmps89
  go_wp2_with fail
  go_loopw [5] (fun v wr => LiA x n W0 v wr) (fun v _ => n - (intOf v).toNat)
  case atStart => exact ⟨0, Nat.zero_le _, rfl, fun a b _ hb => absurd hb (by omega), Below.refl _ _⟩
  obtain ⟨i, hi, rfl, hall, hB⟩ := hrel
  have HA := Lib.hid hall
  have HB := Lib.hid hB
  clear hall
  replace p0 := cell_later hB (Nat.le_refl _) P0.out
  replace p1 := cell_later hB (Nat.le_refl _) P1.out
  replace p2 := cell_later hB (Nat.le_refl _) P2.out
  replace p3 := cell_later hB (Nat.le_refl _) P3.out
  replace p4 := cell_later hB (Nat.le_refl _) P4.out
  replace p5 := cell_later hB (Nat.le_refl _) P5.out
  replace p6 := cell_later hB (Nat.le_refl _) P6.out
  by_cases ilt : i < n
  · have XB := Lib.hid (XA.out.below hB)
    clear hB
    obtain ⟨gx, ox, rfl, kx⟩ := XB.out (by intro e; have := XL.out; rw [e] at this; simp at this; omega)
    clear kx
    have JL := Lib.hid ilt
    have wj : IntKind.i64.wrap ((i : Int) + 1) = (i : Int) + 1 := wrap_in (by omega) (by omega)
    go_wp2_with fail
    go_loopw [6] (fun v wr => LiB x i W0 v wr) (fun v _ => i - (intOf v).toNat)
    case atStart => exact ⟨0, Nat.zero_le _, rfl, fun u hu => absurd hu (by omega), HB.out⟩
    obtain ⟨j, hj, rfl, hall, hB⟩ := hrel
    have HC := Lib.hid hall
    have HB2 := Lib.hid hB
    clear hall
    replace p0 := cell_later hB (Nat.le_refl _) P0.out
    replace p1 := cell_later hB (Nat.le_refl _) P1.out
    replace p2 := cell_later hB (Nat.le_refl _) P2.out
    replace p3 := cell_later hB (Nat.le_refl _) P3.out
    replace p4 := cell_later hB (Nat.le_refl _) P4.out
    replace p5 := cell_later hB (Nat.le_refl _) P5.out
    replace p6 := cell_later hB (Nat.le_refl _) P6.out
    have wi : IntKind.i64.wrap ((j : Int) + 1) = (j : Int) + 1 := wrap_in (by omega) (by omega)
    have XB2 : Hid (InA wr x (some ⟨gx, ox, none⟩)) := Lib.hid (XA.out.below hB)
    clear hB
    by_cases jlt : j < i
    · obtain ⟨gx', ox', e1, kx⟩ := XB2.out (by intro e; have := XL.out; rw [e] at this; simp at this; omega)
      obtain ⟨rfl, rfl⟩ : gx' = gx ∧ ox' = ox := by
        have := Option.some.inj e1; injection this with q1 q2; exact ⟨q1.symm, q2.symm⟩
      have ti := kx i (by rw [XL.out]; exact ilt)
      have tj := kx j (by rw [XL.out]; omega)
      have jn : j < n := by omega
      obtain ⟨y, hy⟩ : ∃ y, x.getD i 0 = y := ⟨_, rfl⟩
      obtain ⟨u, hu⟩ : ∃ u, x.getD j 0 = u := ⟨_, rfl⟩
      rw [hy] at ti
      rw [hu] at tj
      have HY := Lib.hid hy; have HU := Lib.hid hu
      clear hy hu kx e1
      by_cases q : y = u
      · have N : Hid (decide x.Nodup = false) := Lib.hid (decide_eq_false (not_nodup jlt (by rw [XL.out]; exact ilt) (by rw [HY.out, HU.out, q])))
        subst q
        go_upto_region 8 with fail
        refine Rg.s0 8 [] fun WD DW => ?_
        refine Rg.t 0 ?_
        refine Rg.t 1 ?_
        refine Rg.t 2 ?_
        refine Rg.t 3 ?_
        refine Rg.t 4 ?_
        refine Rg.t 5 ?_
        refine Rg.t 6 ?_
        refine Rg.t 7 ?_
        refine Rg.l1 ?_
        go_simp
        go_wp2_with fail
        go_ret
        exact ⟨by rw [← HZ.out, N.out]; rfl, over B0.out (over HB2.out DW)⟩
      · have G : Hid (∀ u, u < j + 1 → x.getD u 0 ≠ x.getD i 0) := Lib.hid (fun v hv => by
          by_cases e : v = j
          · subst e; rw [HY.out, HU.out]; exact fun e => q e.symm
          · exact HC.out v (by omega))
        have dq : (y == u) = false := by simpa using q
        go_upto_region 8 with fail
        refine Rg.s0 8 [] fun WD DW => ?_
        refine Rg.t 0 ?_
        refine Rg.t 1 ?_
        refine Rg.t 2 ?_
        refine Rg.t 3 ?_
        refine Rg.t 4 ?_
        refine Rg.t 5 ?_
        refine Rg.t 6 ?_
        refine Rg.t 7 ?_
        refine Rg.l1 ?_
        go_simp
        go_wp2_with fail
        go_roundw
        case rel => exact ⟨j + 1, by omega, by go_num, G.out, over HB2.out DW⟩
        simp [intOf]; omega
    · obtain rfl : i = j := by omega
      have G : Hid (∀ a b, a < b → b < i + 1 → x.getD a 0 ≠ x.getD b 0) := Lib.hid (fun a b hab hb => by
        by_cases e : b = i
        · subst e; exact HC.out a hab
        · exact HA.out a b hab (by omega))
      go_wp2_with fail
      go_roundw
      case rel => exact ⟨i + 1, by omega, by go_num, G.out, HB2.out⟩
      simp [intOf]; omega
  · obtain rfl : n = i := by omega
    have Y : Hid (decide x.Nodup = true) := Lib.hid (decide_eq_true (nodup_of (fun a b hab hb => HA.out a b hab (by rw [← XL.out]; exact hb))))
    go_wp2_with fail
    go_ret
    exact ⟨by rw [← HZ.out, Y.out]; rfl, over B0.out HB.out⟩
theorem listed5_any {w : World} {rel bd : Int} {T : List (List Int)} {x : List Int} {a1 a2 a3 a6 ax : Option Addr} {n1 c1 n2 c2 n3 c3 n6 c6 n cx : Nat} (hx : InA w x ax) (xl : x.length = n) (n16 : n ≤ 16) (hc : n ≤ cx) (ht : TuA w T a6) (hr : Rm T.length n6 c6) (hl : ∀ i, i < T.length → (T.getD i []).length = n) :
    Calls Tryz.prog 89 #[.agg #[.int .i64 5, .slice a1 n1 c1, .slice a2 n2 c2, .slice a3 n3 c3, .int .i64 rel, .int .i64 bd, .slice a6 n6 c6], .slice ax n cx] w fun e w' => e = .returned (.bool (T.contains x)) ∧ Below w.heap.size w w' := by
  obtain ⟨z, hz⟩ : ∃ z : Bool, T.contains x = z := ⟨_, rfl⟩
  have HZ := Lib.hid hz
  rw [hz]
  clear hz
  obtain ⟨W0, hW0⟩ : ∃ W0, w.alloc (.cells #[.int .i64 5, .slice a1 n1 c1, .slice a2 n2 c2, .slice a3 n3 c3, .int .i64 rel, .int .i64 bd, .slice a6 n6 c6] 33) = W0 := ⟨_, rfl⟩
  have B0 : Hid (Below w.heap.size w W0) := by rw [← hW0]; exact Lib.hid (below_new _ _)
  have I0 : W0.heap[w.heap.size]? = some (.cells #[.int .i64 5, .slice a1 n1 c1, .slice a2 n2 c2, .slice a3 n3 c3, .int .i64 rel, .int .i64 bd, .slice a6 n6 c6] 33 (0, 0)) := by rw [← hW0]; exact heap_alloc_new _ _
  have p0 : W0.cell? ⟨w.heap.size, 0, none⟩ = some (.int .i64 5) := by rw [cell_of_row _ _ _ _ _ _ I0]; rfl
  have p1 : W0.cell? ⟨w.heap.size, 1, none⟩ = some (.slice a1 n1 c1) := by rw [cell_of_row _ _ _ _ _ _ I0]; rfl
  have p2 : W0.cell? ⟨w.heap.size, 2, none⟩ = some (.slice a2 n2 c2) := by rw [cell_of_row _ _ _ _ _ _ I0]; rfl
  have p3 : W0.cell? ⟨w.heap.size, 3, none⟩ = some (.slice a3 n3 c3) := by rw [cell_of_row _ _ _ _ _ _ I0]; rfl
  have p4 : W0.cell? ⟨w.heap.size, 4, none⟩ = some (.int .i64 rel) := by rw [cell_of_row _ _ _ _ _ _ I0]; rfl
  have p5 : W0.cell? ⟨w.heap.size, 5, none⟩ = some (.int .i64 bd) := by rw [cell_of_row _ _ _ _ _ _ I0]; rfl
  have p6 : W0.cell? ⟨w.heap.size, 6, none⟩ = some (.slice a6 n6 c6) := by rw [cell_of_row _ _ _ _ _ _ I0]; rfl
  clear I0
  have P0 := Lib.hid p0; have P1 := Lib.hid p1; have P2 := Lib.hid p2; have P3 := Lib.hid p3; have P4 := Lib.hid p4; have P5 := Lib.hid p5; have P6 := Lib.hid p6
  have XL := Lib.hid xl
  have XA : Hid (InA W0 x ax) := Lib.hid (hx.below B0.out)
  clear hx xl
  have TA : Hid (TuA W0 T a6) := Lib.hid (ht.below B0.out)
  have TE : Hid (T.length = n6) := Lib.hid hr.e
  have T2 := Lib.hid hr.l; have T3 := Lib.hid hr.u
  have HL := Lib.hid hl
  clear ht hr hl
  go_enter Tryz.func89, Tryz.ntmps89
  go_wp2_with fail
  go_loopw [7] (fun v wr => LiC T x W0 v wr) (fun v _ => n6 - (intOf v).toNat)
  case atStart => exact ⟨0, Nat.zero_le _, rfl, fun u hu => absurd hu (by omega), Below.refl _ _⟩
  obtain ⟨i, hi, rfl, hall, hB⟩ := hrel
  have HA := Lib.hid hall
  have HB := Lib.hid hB
  clear hall
  rw [TE.out] at hi
  replace p0 := cell_later hB (Nat.le_refl _) P0.out
  replace p1 := cell_later hB (Nat.le_refl _) P1.out
  replace p2 := cell_later hB (Nat.le_refl _) P2.out
  replace p3 := cell_later hB (Nat.le_refl _) P3.out
  replace p4 := cell_later hB (Nat.le_refl _) P4.out
  replace p5 := cell_later hB (Nat.le_refl _) P5.out
  replace p6 := cell_later hB (Nat.le_refl _) P6.out
  by_cases ilt : i < n6
  · have TB := Lib.hid (TA.out.below hB)
    clear hB
    obtain ⟨g6, o6, rfl, k6⟩ := TB.out (by intro e; have := TE.out; rw [e] at this; simp at this; omega)
    clear k6 TB
    have JL := Lib.hid ilt
    have wj : IntKind.i64.wrap ((i : Int) + 1) = (i : Int) + 1 := wrap_in (by omega) (by have := T2.out; have := T3.out; omega)
    go_wp2_with fail
    go_loopw [8, 9] (fun v8 v9 wr => LiD (T.getD i []) x n W0 v8 v9 wr) (fun v8 v9 _ => n - (intOf v9).toNat)
    case atStart => exact ⟨0, true, Nat.zero_le _, rfl, rfl, ⟨fun _ u hu => absurd hu (by omega), fun _ => rfl⟩, HB.out⟩
    obtain ⟨j, b, hj, rfl, rfl, hall, hB⟩ := hrel
    have HC := Lib.hid hall
    have HB2 := Lib.hid hB
    clear hall
    replace p0 := cell_later hB (Nat.le_refl _) P0.out
    replace p1 := cell_later hB (Nat.le_refl _) P1.out
    replace p2 := cell_later hB (Nat.le_refl _) P2.out
    replace p3 := cell_later hB (Nat.le_refl _) P3.out
    replace p4 := cell_later hB (Nat.le_refl _) P4.out
    replace p5 := cell_later hB (Nat.le_refl _) P5.out
    replace p6 := cell_later hB (Nat.le_refl _) P6.out
    have wi : IntKind.i64.wrap ((j : Int) + 1) = (j : Int) + 1 := wrap_in (by omega) (by omega)
    have XB2 : Hid (InA wr x ax) := Lib.hid (XA.out.below hB)
    have TB2 : Hid (TuA wr T (some ⟨g6, o6, none⟩)) := Lib.hid (TA.out.below hB)
    clear hB
    by_cases jlt : j < n
    · obtain ⟨gx, ox, rfl, kx⟩ := XB2.out (by intro e; have := XL.out; rw [e] at this; simp at this; omega)
      have tj := kx j (by rw [XL.out]; exact jlt)
      obtain ⟨g6', o6', e1, k6⟩ := TB2.out (by intro e; have := TE.out; rw [e] at this; simp at this; omega)
      obtain ⟨rfl, rfl⟩ : g6' = g6 ∧ o6' = o6 := by
        have := Option.some.inj e1; injection this with q1 q2; exact ⟨q1.symm, q2.symm⟩
      obtain ⟨ai, ci, t0, u1, u2, u3⟩ := k6 i (by rw [TE.out]; exact ilt)
      rw [HL.out i (by rw [TE.out]; exact ilt)] at t0 u2
      obtain ⟨gt, ot, rfl, kt⟩ := u1 (by intro e; have := HL.out i (by rw [TE.out]; exact ilt); rw [e] at this; simp at this; omega)
      have t1 := kt j (by rw [HL.out i (by rw [TE.out]; exact ilt)]; exact jlt)
      obtain ⟨y, hy⟩ : ∃ y, x.getD j 0 = y := ⟨_, rfl⟩
      obtain ⟨u, hu⟩ : ∃ u, (T.getD i []).getD j 0 = u := ⟨_, rfl⟩
      rw [hy] at tj
      rw [hu] at t1
      have HY := Lib.hid hy; have HU := Lib.hid hu
      clear hy hu kx kt k6 e1 u1 u2 u3
      by_cases q : u = y
      · have G : Hid (b = true ↔ ∀ v, v < j + 1 → (T.getD i []).getD v 0 = x.getD v 0) := Lib.hid (HC.out.trans ⟨fun h v hv => by
          by_cases e : v = j
          · subst e; rw [HY.out, HU.out, q]
          · exact h v (by omega), fun h v hv => h v (by omega)⟩)
        subst q
        go_upto_region 19 with fail
        refine Rg.s0 12 [] fun WD DW => ?_
        refine Rg.t 0 ?_
        refine Rg.t 1 ?_
        refine Rg.t 2 ?_
        refine Rg.t 3 ?_
        refine Rg.t 4 ?_
        refine Rg.t 5 ?_
        refine Rg.t 6 ?_
        refine Rg.t 7 ?_
        refine Rg.t 8 ?_
        refine Rg.t 9 ?_
        refine Rg.t 10 ?_
        refine Rg.t 11 ?_
        refine Rg.l1 ?_
        go_simp
        go_wp2_with fail
        go_roundw
        case rel => exact ⟨j + 1, b, by omega, by go_num, rfl, G.out, over HB2.out DW⟩
        simp [intOf]; omega
      · have G : Hid (false = true ↔ ∀ v, v < j + 1 → (T.getD i []).getD v 0 = x.getD v 0) := Lib.hid (Iff.intro (fun h => by cases h) (fun h => absurd (by have := h j (by omega); rwa [HY.out, HU.out] at this) q))
        have dq : (u != y) = true := by simpa using q
        go_upto_region 19 with fail
        refine Rg.s0 12 [] fun WD DW => ?_
        refine Rg.t 0 ?_
        refine Rg.t 1 ?_
        refine Rg.t 2 ?_
        refine Rg.t 3 ?_
        refine Rg.t 4 ?_
        refine Rg.t 5 ?_
        refine Rg.t 6 ?_
        refine Rg.t 7 ?_
        refine Rg.t 8 ?_
        refine Rg.t 9 ?_
        refine Rg.t 10 ?_
        refine Rg.t 11 ?_
        refine Rg.l1 ?_
        go_simp
        go_wp2_with fail
        go_roundw
        case rel => exact ⟨j + 1, false, by omega, by go_num, rfl, G.out, over HB2.out DW⟩
        simp [intOf]; omega
    · obtain rfl : n = j := by omega
      cases b
      · have G : Hid (∀ u, u < i + 1 → T.getD u [] ≠ x) := Lib.hid (fun u hu => by
          by_cases e : u = i
          · subst e; intro e; have := HC.out.2 (fun v _ => by rw [e]); cases this
          · exact HA.out u (by omega))
        go_wp2_with fail
        go_roundw
        case rel => exact ⟨i + 1, by rw [TE.out]; omega, by go_num, G.out, HB2.out⟩
        simp [intOf]; omega
      · have Y : Hid (T.contains x = true) := Lib.hid (contains_yes (i := i) (by rw [TE.out]; exact ilt) (ext_D (by rw [XL.out]; exact HL.out i (by rw [TE.out]; exact ilt)) (fun u hu => HC.out.1 rfl u (by rw [← XL.out]; exact hu))))
        go_wp2_with fail
        go_ret
        exact ⟨by rw [← HZ.out, Y.out]; rfl, over B0.out HB2.out⟩
  · obtain rfl : n6 = i := by omega
    have N : Hid (T.contains x = false) := Lib.hid (contains_no (fun u hu => HA.out u (by rw [← TE.out]; exact hu)))
    go_wp2_with fail
    go_ret
    exact ⟨by rw [← HZ.out, N.out]; rfl, over B0.out HB.out⟩
theorem listed8_any {w : World} {rel bd : Int} {T : List (List Int)} {x : List Int} {a1 a2 a3 a6 ax : Option Addr} {n1 c1 n2 c2 n3 c3 n6 c6 n cx : Nat} (hx : InA w x ax) (xl : x.length = n) (n16 : n ≤ 16) (hc : n ≤ cx) (n2le : 2 ≤ n) :
    Calls Tryz.prog 89 #[.agg #[.int .i64 8, .slice a1 n1 c1, .slice a2 n2 c2, .slice a3 n3 c3, .int .i64 rel, .int .i64 bd, .slice a6 n6 c6], .slice ax n cx] w fun e w' => e = .returned (.bool (x.getD 0 0 == cnU bd x (x.length - 1))) ∧ Below w.heap.size w w' := by
  obtain ⟨z, hz⟩ : ∃ z : Bool, (x.getD 0 0 == cnU bd x (x.length - 1)) = z := ⟨_, rfl⟩
  have HZ := Lib.hid hz
  rw [hz]
  clear hz
  obtain ⟨W0, hW0⟩ : ∃ W0, w.alloc (.cells #[.int .i64 8, .slice a1 n1 c1, .slice a2 n2 c2, .slice a3 n3 c3, .int .i64 rel, .int .i64 bd, .slice a6 n6 c6] 33) = W0 := ⟨_, rfl⟩
  have B0 : Hid (Below w.heap.size w W0) := by rw [← hW0]; exact Lib.hid (below_new _ _)
  have I0 : W0.heap[w.heap.size]? = some (.cells #[.int .i64 8, .slice a1 n1 c1, .slice a2 n2 c2, .slice a3 n3 c3, .int .i64 rel, .int .i64 bd, .slice a6 n6 c6] 33 (0, 0)) := by rw [← hW0]; exact heap_alloc_new _ _
  have p0 : W0.cell? ⟨w.heap.size, 0, none⟩ = some (.int .i64 8) := by rw [cell_of_row _ _ _ _ _ _ I0]; rfl
  have p1 : W0.cell? ⟨w.heap.size, 1, none⟩ = some (.slice a1 n1 c1) := by rw [cell_of_row _ _ _ _ _ _ I0]; rfl
  have p2 : W0.cell? ⟨w.heap.size, 2, none⟩ = some (.slice a2 n2 c2) := by rw [cell_of_row _ _ _ _ _ _ I0]; rfl
  have p3 : W0.cell? ⟨w.heap.size, 3, none⟩ = some (.slice a3 n3 c3) := by rw [cell_of_row _ _ _ _ _ _ I0]; rfl
  have p4 : W0.cell? ⟨w.heap.size, 4, none⟩ = some (.int .i64 rel) := by rw [cell_of_row _ _ _ _ _ _ I0]; rfl
  have p5 : W0.cell? ⟨w.heap.size, 5, none⟩ = some (.int .i64 bd) := by rw [cell_of_row _ _ _ _ _ _ I0]; rfl
  have p6 : W0.cell? ⟨w.heap.size, 6, none⟩ = some (.slice a6 n6 c6) := by rw [cell_of_row _ _ _ _ _ _ I0]; rfl
  clear I0
  have P0 := Lib.hid p0; have P1 := Lib.hid p1; have P2 := Lib.hid p2; have P3 := Lib.hid p3; have P4 := Lib.hid p4; have P5 := Lib.hid p5; have P6 := Lib.hid p6
  have XL := Lib.hid xl
  have XA : Hid (InA W0 x ax) := Lib.hid (hx.below B0.out)
  clear hx xl
  obtain ⟨gx, ox, rfl, kx⟩ := XA.out (by intro e; have := XL.out; rw [e] at this; simp at this; omega)
  have r0 := kx 0 (by rw [XL.out]; omega)
  rw [Nat.add_zero] at r0
  have r1 := kx 1 (by rw [XL.out]; omega)
  have n0 : 0 < n := by omega
  have n1' : 1 < n := by omega
  have n0i : (0 : Int) < (n : Int) := by omega
  have n1i : (1 : Int) < (n : Int) := by omega
  clear kx
  go_enter Tryz.func89, Tryz.ntmps89
  go_wp2_with fail
  go_loopw [10, 11, 12] (fun v10 v11 v12 wr => LiE 8 bd x n W0 v10 v11 v12 wr) (fun v10 v11 v12 _ => n - (intOf v12).toNat)
  case atStart => exact ⟨0, by omega, by go_num, rfl, by simp [beU], Below.refl _ _⟩
  obtain ⟨m, hm, rfl, rfl, rfl, hB⟩ := hrel
  have HB := Lib.hid hB
  replace p0 := cell_later hB (Nat.le_refl _) P0.out
  replace p1 := cell_later hB (Nat.le_refl _) P1.out
  replace p2 := cell_later hB (Nat.le_refl _) P2.out
  replace p3 := cell_later hB (Nat.le_refl _) P3.out
  replace p4 := cell_later hB (Nat.le_refl _) P4.out
  replace p5 := cell_later hB (Nat.le_refl _) P5.out
  replace p6 := cell_later hB (Nat.le_refl _) P6.out
  obtain ⟨gx', ox', e1, kx⟩ := (XA.out.below hB) (by intro e; have := XL.out; rw [e] at this; simp at this; omega)
  obtain ⟨rfl, rfl⟩ : gx' = gx ∧ ox' = ox := by
    have := Option.some.inj e1; injection this with q1 q2; exact ⟨q1.symm, q2.symm⟩
  have r0 := kx 0 (by rw [XL.out]; omega)
  rw [Nat.add_zero] at r0
  clear hB e1
  have cb := cn_le (bd := bd) (x := x) m
  have EC : Hid (cnU bd x (m + 1) = cnU bd x m + (if x.getD (m + 1) 0 = bd then 1 else 0)) := Lib.hid rfl
  have EB : Hid (beU bd x (m + 1) = if (bd = 0 ∧ x.getD (m + 1) 0 < beU bd x m) ∨ (bd = 1 ∧ beU bd x m < x.getD (m + 1) 0) then x.getD (m + 1) 0 else beU bd x m) := Lib.hid rfl
  obtain ⟨s, hs⟩ : ∃ s, cnU bd x m = s := ⟨_, rfl⟩
  rw [hs] at cb EC
  have HS := Lib.hid hs
  rw [hs]
  clear hs
  obtain ⟨t, ht⟩ : ∃ t, beU bd x m = t := ⟨_, rfl⟩
  have HT := Lib.hid ht
  rw [ht] at EB
  try rw [if_neg (show ¬ (8 : Int) = 7 by decide)]
  try rw [if_pos rfl]
  try rw [ht]
  clear ht
  obtain ⟨cb1, cb2⟩ := cb
  have wm : IntKind.i64.wrap ((m : Int) + 1 + 1) = (m : Int) + 1 + 1 := wrap_in (by omega) (by omega)
  have wc : IntKind.i64.wrap (s + 1) = s + 1 := wrap_in (by omega) (by omega)
  clear cb1 cb2
  by_cases mlt : m + 1 < n
  · have rm := kx (m + 1) (by rw [XL.out]; exact mlt)
    obtain ⟨y, hy⟩ : ∃ y, x.getD (m + 1) 0 = y := ⟨_, rfl⟩
    rw [hy] at rm EC EB
    clear hy kx
    have mi : (m : Int) + 1 < (n : Int) := by omega
    have z0 : (0 : Int) ≤ (m : Int) + 1 := by omega
    have mt : ((m : Int) + 1).toNat = m + 1 := by omega
    have oa : (ox' : Int) + ((m : Int) + 1) = ((ox' + (m + 1) : Nat) : Int) := by push_cast; omega
    by_cases q : y = bd
    · have E1 : Hid (cnU bd x (m + 1) = s + 1) := Lib.hid (by rw [EC.out, if_pos q])
      have dq : (y == bd) = true := by simpa using q
      go_upto_region 29 with fail
      refine Rg.s0 6 [] fun WD DW => ?_
      refine Rg.t 0 ?_
      refine Rg.t 1 ?_
      refine Rg.t 2 ?_
      refine Rg.t 3 ?_
      refine Rg.t 4 ?_
      refine Rg.t 5 ?_
      refine Rg.l1 ?_
      go_simp
      replace p0 := cell_later DW (Nat.le_refl _) p0
      replace p5 := cell_later DW (Nat.le_refl _) p5
      replace rm := cell_later DW (Nat.le_refl _) rm
      go_wp2_with fail
      go_roundw
      case rel => exact ⟨m + 1, by omega, by go_num, by rw [E1.out], by rfl, over HB.out DW⟩
      simp [intOf]; omega
    · have E1 : Hid (cnU bd x (m + 1) = s) := Lib.hid (by rw [EC.out, if_neg q]; omega)
      have dq : (y == bd) = false := by simpa using q
      go_upto_region 29 with fail
      refine Rg.s0 6 [] fun WD DW => ?_
      refine Rg.t 0 ?_
      refine Rg.t 1 ?_
      refine Rg.t 2 ?_
      refine Rg.t 3 ?_
      refine Rg.t 4 ?_
      refine Rg.t 5 ?_
      refine Rg.l1 ?_
      go_simp
      replace p0 := cell_later DW (Nat.le_refl _) p0
      replace p5 := cell_later DW (Nat.le_refl _) p5
      replace rm := cell_later DW (Nat.le_refl _) rm
      go_wp2_with fail
      go_roundw
      case rel => exact ⟨m + 1, by omega, by go_num, by rw [E1.out], by rfl, over HB.out DW⟩
      simp [intOf]; omega
  · obtain ⟨h0, hh0⟩ : ∃ h0, x.getD 0 0 = h0 := ⟨_, rfl⟩
    rw [hh0] at r0
    have H0 := Lib.hid hh0
    have XM : Hid (x.length - 1 = m) := Lib.hid (by rw [XL.out]; omega)
    clear hh0 kx
    have mge : ¬ ((m : Int) + 1 < (n : Int)) := by omega
    go_wp2_with fail
    go_ret
    exact ⟨by rw [← HZ.out, XM.out, H0.out, HS.out]; rfl, over B0.out HB.out⟩
theorem listed7_any {w : World} {rel bd : Int} {T : List (List Int)} {x : List Int} {a1 a2 a3 a6 ax : Option Addr} {n1 c1 n2 c2 n3 c3 n6 c6 n cx : Nat} (hx : InA w x ax) (xl : x.length = n) (n16 : n ≤ 16) (hc : n ≤ cx) (n2le : 2 ≤ n) (hb : bd = 0 ∨ bd = 1) :
    Calls Tryz.prog 89 #[.agg #[.int .i64 7, .slice a1 n1 c1, .slice a2 n2 c2, .slice a3 n3 c3, .int .i64 rel, .int .i64 bd, .slice a6 n6 c6], .slice ax n cx] w fun e w' => e = .returned (.bool (x.getD 0 0 == beU bd x (x.length - 1))) ∧ Below w.heap.size w w' := by
  obtain ⟨z, hz⟩ : ∃ z : Bool, (x.getD 0 0 == beU bd x (x.length - 1)) = z := ⟨_, rfl⟩
  have HZ := Lib.hid hz
  rw [hz]
  clear hz
  obtain ⟨W0, hW0⟩ : ∃ W0, w.alloc (.cells #[.int .i64 7, .slice a1 n1 c1, .slice a2 n2 c2, .slice a3 n3 c3, .int .i64 rel, .int .i64 bd, .slice a6 n6 c6] 33) = W0 := ⟨_, rfl⟩
  have B0 : Hid (Below w.heap.size w W0) := by rw [← hW0]; exact Lib.hid (below_new _ _)
  have I0 : W0.heap[w.heap.size]? = some (.cells #[.int .i64 7, .slice a1 n1 c1, .slice a2 n2 c2, .slice a3 n3 c3, .int .i64 rel, .int .i64 bd, .slice a6 n6 c6] 33 (0, 0)) := by rw [← hW0]; exact heap_alloc_new _ _
  have p0 : W0.cell? ⟨w.heap.size, 0, none⟩ = some (.int .i64 7) := by rw [cell_of_row _ _ _ _ _ _ I0]; rfl
  have p1 : W0.cell? ⟨w.heap.size, 1, none⟩ = some (.slice a1 n1 c1) := by rw [cell_of_row _ _ _ _ _ _ I0]; rfl
  have p2 : W0.cell? ⟨w.heap.size, 2, none⟩ = some (.slice a2 n2 c2) := by rw [cell_of_row _ _ _ _ _ _ I0]; rfl
  have p3 : W0.cell? ⟨w.heap.size, 3, none⟩ = some (.slice a3 n3 c3) := by rw [cell_of_row _ _ _ _ _ _ I0]; rfl
  have p4 : W0.cell? ⟨w.heap.size, 4, none⟩ = some (.int .i64 rel) := by rw [cell_of_row _ _ _ _ _ _ I0]; rfl
  have p5 : W0.cell? ⟨w.heap.size, 5, none⟩ = some (.int .i64 bd) := by rw [cell_of_row _ _ _ _ _ _ I0]; rfl
  have p6 : W0.cell? ⟨w.heap.size, 6, none⟩ = some (.slice a6 n6 c6) := by rw [cell_of_row _ _ _ _ _ _ I0]; rfl
  clear I0
  have P0 := Lib.hid p0; have P1 := Lib.hid p1; have P2 := Lib.hid p2; have P3 := Lib.hid p3; have P4 := Lib.hid p4; have P5 := Lib.hid p5; have P6 := Lib.hid p6
  have XL := Lib.hid xl
  have XA : Hid (InA W0 x ax) := Lib.hid (hx.below B0.out)
  clear hx xl
  have HBD := Lib.hid hb
  clear hb
  obtain ⟨gx, ox, rfl, kx⟩ := XA.out (by intro e; have := XL.out; rw [e] at this; simp at this; omega)
  have r0 := kx 0 (by rw [XL.out]; omega)
  rw [Nat.add_zero] at r0
  have r1 := kx 1 (by rw [XL.out]; omega)
  have n0 : 0 < n := by omega
  have n1' : 1 < n := by omega
  have n0i : (0 : Int) < (n : Int) := by omega
  have n1i : (1 : Int) < (n : Int) := by omega
  clear kx
  go_enter Tryz.func89, Tryz.ntmps89
  go_wp2_with fail
  go_loopw [10, 11, 12] (fun v10 v11 v12 wr => LiE 7 bd x n W0 v10 v11 v12 wr) (fun v10 v11 v12 _ => n - (intOf v12).toNat)
  case atStart => exact ⟨0, by omega, by go_num, rfl, by simp [beU], Below.refl _ _⟩
  obtain ⟨m, hm, rfl, rfl, rfl, hB⟩ := hrel
  have HB := Lib.hid hB
  replace p0 := cell_later hB (Nat.le_refl _) P0.out
  replace p1 := cell_later hB (Nat.le_refl _) P1.out
  replace p2 := cell_later hB (Nat.le_refl _) P2.out
  replace p3 := cell_later hB (Nat.le_refl _) P3.out
  replace p4 := cell_later hB (Nat.le_refl _) P4.out
  replace p5 := cell_later hB (Nat.le_refl _) P5.out
  replace p6 := cell_later hB (Nat.le_refl _) P6.out
  obtain ⟨gx', ox', e1, kx⟩ := (XA.out.below hB) (by intro e; have := XL.out; rw [e] at this; simp at this; omega)
  obtain ⟨rfl, rfl⟩ : gx' = gx ∧ ox' = ox := by
    have := Option.some.inj e1; injection this with q1 q2; exact ⟨q1.symm, q2.symm⟩
  have r0 := kx 0 (by rw [XL.out]; omega)
  rw [Nat.add_zero] at r0
  clear hB e1
  have cb := cn_le (bd := bd) (x := x) m
  have EC : Hid (cnU bd x (m + 1) = cnU bd x m + (if x.getD (m + 1) 0 = bd then 1 else 0)) := Lib.hid rfl
  have EB : Hid (beU bd x (m + 1) = if (bd = 0 ∧ x.getD (m + 1) 0 < beU bd x m) ∨ (bd = 1 ∧ beU bd x m < x.getD (m + 1) 0) then x.getD (m + 1) 0 else beU bd x m) := Lib.hid rfl
  obtain ⟨s, hs⟩ : ∃ s, cnU bd x m = s := ⟨_, rfl⟩
  rw [hs] at cb EC
  have HS := Lib.hid hs
  rw [hs]
  clear hs
  obtain ⟨t, ht⟩ : ∃ t, beU bd x m = t := ⟨_, rfl⟩
  have HT := Lib.hid ht
  rw [ht] at EB
  try rw [if_neg (show ¬ (8 : Int) = 7 by decide)]
  try rw [if_pos rfl]
  try rw [ht]
  clear ht
  obtain ⟨cb1, cb2⟩ := cb
  have wm : IntKind.i64.wrap ((m : Int) + 1 + 1) = (m : Int) + 1 + 1 := wrap_in (by omega) (by omega)
  have wc : IntKind.i64.wrap (s + 1) = s + 1 := wrap_in (by omega) (by omega)
  clear cb1 cb2
  by_cases mlt : m + 1 < n
  · have rm := kx (m + 1) (by rw [XL.out]; exact mlt)
    obtain ⟨y, hy⟩ : ∃ y, x.getD (m + 1) 0 = y := ⟨_, rfl⟩
    rw [hy] at rm EC EB
    clear hy kx
    have mi : (m : Int) + 1 < (n : Int) := by omega
    have z0 : (0 : Int) ≤ (m : Int) + 1 := by omega
    have mt : ((m : Int) + 1).toNat = m + 1 := by omega
    have oa : (ox' : Int) + ((m : Int) + 1) = ((ox' + (m + 1) : Nat) : Int) := by push_cast; omega
    by_cases q : y = bd
    · have E1 : Hid (cnU bd x (m + 1) = s + 1) := Lib.hid (by rw [EC.out, if_pos q])
      have dq : (y == bd) = true := by simpa using q
      rcases HBD.out with b0 | b1
      · by_cases g : y < t
        · have E2 : Hid (beU bd x (m + 1) = y) := Lib.hid (by rw [EB.out, if_pos (Or.inl ⟨b0, g⟩)])
          have dd : (bd == 0) = true := by simpa using b0
          clear b0
          go_upto_region 29 with fail
          refine Rg.s0 6 [] fun WD DW => ?_
          refine Rg.t 0 ?_
          refine Rg.t 1 ?_
          refine Rg.t 2 ?_
          refine Rg.t 3 ?_
          refine Rg.t 4 ?_
          refine Rg.t 5 ?_
          refine Rg.l1 ?_
          go_simp
          replace p0 := cell_later DW (Nat.le_refl _) p0
          replace p5 := cell_later DW (Nat.le_refl _) p5
          replace rm := cell_later DW (Nat.le_refl _) rm
          go_wp2_with fail
          go_roundw
          case rel => exact ⟨m + 1, by omega, by go_num, by rw [E1.out], by (first | (rw [if_pos rfl, E2.out]; done) | (rw [if_pos rfl, E2.out, q])), over HB.out DW⟩
          simp [intOf]; omega
        · have E2 : Hid (beU bd x (m + 1) = t) := Lib.hid (by rw [EB.out, if_neg (by omega)])
          have dd : (bd == 0) = true := by simpa using b0
          have dd1 : (bd == 1) = false := by simp; omega
          clear b0
          go_upto_region 29 with fail
          refine Rg.s0 6 [] fun WD DW => ?_
          refine Rg.t 0 ?_
          refine Rg.t 1 ?_
          refine Rg.t 2 ?_
          refine Rg.t 3 ?_
          refine Rg.t 4 ?_
          refine Rg.t 5 ?_
          refine Rg.l1 ?_
          go_simp
          replace p0 := cell_later DW (Nat.le_refl _) p0
          replace p5 := cell_later DW (Nat.le_refl _) p5
          replace rm := cell_later DW (Nat.le_refl _) rm
          go_wp2_with fail
          go_roundw
          case rel => exact ⟨m + 1, by omega, by go_num, by rw [E1.out], by (first | (rw [if_pos rfl, E2.out]; done) | (rw [if_pos rfl, E2.out, q])), over HB.out DW⟩
          simp [intOf]; omega
      · by_cases g : t < y
        · have E2 : Hid (beU bd x (m + 1) = y) := Lib.hid (by rw [EB.out, if_pos (Or.inr ⟨b1, g⟩)])
          have dd : (bd == 1) = true := by simpa using b1
          have dd1 : (bd == 0) = false := by simp; omega
          clear b1
          go_upto_region 29 with fail
          refine Rg.s0 6 [] fun WD DW => ?_
          refine Rg.t 0 ?_
          refine Rg.t 1 ?_
          refine Rg.t 2 ?_
          refine Rg.t 3 ?_
          refine Rg.t 4 ?_
          refine Rg.t 5 ?_
          refine Rg.l1 ?_
          go_simp
          replace p0 := cell_later DW (Nat.le_refl _) p0
          replace p5 := cell_later DW (Nat.le_refl _) p5
          replace rm := cell_later DW (Nat.le_refl _) rm
          go_wp2_with fail
          go_roundw
          case rel => exact ⟨m + 1, by omega, by go_num, by rw [E1.out], by (first | (rw [if_pos rfl, E2.out]; done) | (rw [if_pos rfl, E2.out, q])), over HB.out DW⟩
          simp [intOf]; omega
        · have E2 : Hid (beU bd x (m + 1) = t) := Lib.hid (by rw [EB.out, if_neg (by omega)])
          have dd : (bd == 1) = true := by simpa using b1
          have dd1 : (bd == 0) = false := by simp; omega
          clear b1
          go_upto_region 29 with fail
          refine Rg.s0 6 [] fun WD DW => ?_
          refine Rg.t 0 ?_
          refine Rg.t 1 ?_
          refine Rg.t 2 ?_
          refine Rg.t 3 ?_
          refine Rg.t 4 ?_
          refine Rg.t 5 ?_
          refine Rg.l1 ?_
          go_simp
          replace p0 := cell_later DW (Nat.le_refl _) p0
          replace p5 := cell_later DW (Nat.le_refl _) p5
          replace rm := cell_later DW (Nat.le_refl _) rm
          go_wp2_with fail
          go_roundw
          case rel => exact ⟨m + 1, by omega, by go_num, by rw [E1.out], by (first | (rw [if_pos rfl, E2.out]; done) | (rw [if_pos rfl, E2.out, q])), over HB.out DW⟩
          simp [intOf]; omega
    · have E1 : Hid (cnU bd x (m + 1) = s) := Lib.hid (by rw [EC.out, if_neg q]; omega)
      have dq : (y == bd) = false := by simpa using q
      rcases HBD.out with b0 | b1
      · by_cases g : y < t
        · have E2 : Hid (beU bd x (m + 1) = y) := Lib.hid (by rw [EB.out, if_pos (Or.inl ⟨b0, g⟩)])
          have dd : (bd == 0) = true := by simpa using b0
          clear b0
          go_upto_region 29 with fail
          refine Rg.s0 6 [] fun WD DW => ?_
          refine Rg.t 0 ?_
          refine Rg.t 1 ?_
          refine Rg.t 2 ?_
          refine Rg.t 3 ?_
          refine Rg.t 4 ?_
          refine Rg.t 5 ?_
          refine Rg.l1 ?_
          go_simp
          replace p0 := cell_later DW (Nat.le_refl _) p0
          replace p5 := cell_later DW (Nat.le_refl _) p5
          replace rm := cell_later DW (Nat.le_refl _) rm
          go_wp2_with fail
          go_roundw
          case rel => exact ⟨m + 1, by omega, by go_num, by rw [E1.out], by (first | (rw [if_pos rfl, E2.out]; done) | (rw [if_pos rfl, E2.out, q])), over HB.out DW⟩
          simp [intOf]; omega
        · have E2 : Hid (beU bd x (m + 1) = t) := Lib.hid (by rw [EB.out, if_neg (by omega)])
          have dd : (bd == 0) = true := by simpa using b0
          have dd1 : (bd == 1) = false := by simp; omega
          clear b0
          go_upto_region 29 with fail
          refine Rg.s0 6 [] fun WD DW => ?_
          refine Rg.t 0 ?_
          refine Rg.t 1 ?_
          refine Rg.t 2 ?_
          refine Rg.t 3 ?_
          refine Rg.t 4 ?_
          refine Rg.t 5 ?_
          refine Rg.l1 ?_
          go_simp
          replace p0 := cell_later DW (Nat.le_refl _) p0
          replace p5 := cell_later DW (Nat.le_refl _) p5
          replace rm := cell_later DW (Nat.le_refl _) rm
          go_wp2_with fail
          go_roundw
          case rel => exact ⟨m + 1, by omega, by go_num, by rw [E1.out], by (first | (rw [if_pos rfl, E2.out]; done) | (rw [if_pos rfl, E2.out, q])), over HB.out DW⟩
          simp [intOf]; omega
      · by_cases g : t < y
        · have E2 : Hid (beU bd x (m + 1) = y) := Lib.hid (by rw [EB.out, if_pos (Or.inr ⟨b1, g⟩)])
          have dd : (bd == 1) = true := by simpa using b1
          have dd1 : (bd == 0) = false := by simp; omega
          clear b1
          go_upto_region 29 with fail
          refine Rg.s0 6 [] fun WD DW => ?_
          refine Rg.t 0 ?_
          refine Rg.t 1 ?_
          refine Rg.t 2 ?_
          refine Rg.t 3 ?_
          refine Rg.t 4 ?_
          refine Rg.t 5 ?_
          refine Rg.l1 ?_
          go_simp
          replace p0 := cell_later DW (Nat.le_refl _) p0
          replace p5 := cell_later DW (Nat.le_refl _) p5
          replace rm := cell_later DW (Nat.le_refl _) rm
          go_wp2_with fail
          go_roundw
          case rel => exact ⟨m + 1, by omega, by go_num, by rw [E1.out], by (first | (rw [if_pos rfl, E2.out]; done) | (rw [if_pos rfl, E2.out, q])), over HB.out DW⟩
          simp [intOf]; omega
        · have E2 : Hid (beU bd x (m + 1) = t) := Lib.hid (by rw [EB.out, if_neg (by omega)])
          have dd : (bd == 1) = true := by simpa using b1
          have dd1 : (bd == 0) = false := by simp; omega
          clear b1
          go_upto_region 29 with fail
          refine Rg.s0 6 [] fun WD DW => ?_
          refine Rg.t 0 ?_
          refine Rg.t 1 ?_
          refine Rg.t 2 ?_
          refine Rg.t 3 ?_
          refine Rg.t 4 ?_
          refine Rg.t 5 ?_
          refine Rg.l1 ?_
          go_simp
          replace p0 := cell_later DW (Nat.le_refl _) p0
          replace p5 := cell_later DW (Nat.le_refl _) p5
          replace rm := cell_later DW (Nat.le_refl _) rm
          go_wp2_with fail
          go_roundw
          case rel => exact ⟨m + 1, by omega, by go_num, by rw [E1.out], by (first | (rw [if_pos rfl, E2.out]; done) | (rw [if_pos rfl, E2.out, q])), over HB.out DW⟩
          simp [intOf]; omega
  · obtain ⟨h0, hh0⟩ : ∃ h0, x.getD 0 0 = h0 := ⟨_, rfl⟩
    rw [hh0] at r0
    have H0 := Lib.hid hh0
    have XM : Hid (x.length - 1 = m) := Lib.hid (by rw [XL.out]; omega)
    clear hh0 kx
    have mge : ¬ ((m : Int) + 1 < (n : Int)) := by omega
    go_wp2_with fail
    go_ret
    exact ⟨by rw [← HZ.out, XM.out, H0.out, HT.out]; rfl, over B0.out HB.out⟩
end Go.Proofs.YteiohgiecpibhaaGreat
