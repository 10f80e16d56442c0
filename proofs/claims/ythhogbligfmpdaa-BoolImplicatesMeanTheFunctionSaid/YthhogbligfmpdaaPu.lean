/- Plain facts for BoolImplicatesMeanTheFunction: the conjunction of the least implied clauses is the function; functions of few variables have few nodes. No program. -/
import Derived.Test.YthhogbligfmpdaaPt
set_option linter.unusedVariables false
set_option linter.unusedSimpArgs false
namespace Go.Proofs.Ythhogbligfmpdaa.Bd

/-- All clauses are true at x. -/
def allT (ls : List (List Int)) (x : Nat) : Bool := ls.all fun c => c.any (lt1 x)

theorem prime_in {T : List Bool} {vs : List Int} (n : Nat) : ∀ (s : List Int), s.length ≤ n → Sel vs s → Imp T s → ∃ p, Sel vs p ∧ Prime T p ∧ ∀ l ∈ p, l ∈ s := by
  induction n with
  | zero =>
    intro s hs h1 h2
    have : s = [] := List.length_eq_zero_iff.1 (by omega)
    exact ⟨s, h1, ⟨h2, fun i hi => by rw [this] at hi; simp at hi⟩, fun l h => h⟩
  | succ n ih =>
    intro s hs h1 h2
    by_cases hp : Prime T s
    · exact ⟨s, h1, hp, fun l h => h⟩
    · have : ∃ i, i < s.length ∧ Imp T (s.eraseIdx i) := by
        refine Classical.byContradiction fun hn => hp ⟨h2, fun i hi hI => hn ⟨i, hi, hI⟩⟩
      obtain ⟨i, hi, hI⟩ := this
      obtain ⟨p, q1, q2, q3⟩ := ih (s.eraseIdx i) (by rw [List.length_eraseIdx, if_pos hi]; omega) (sel_erase i h1) hI
      exact ⟨p, q1, q2, fun l h => (List.eraseIdx_sublist s i).subset (q3 l h)⟩

/-- The clause that is false at x alone. -/
def mx (x : Nat) : List Int → List Int
  | [] => []
  | v :: vs => (if x.testBit (kO v) then -v - 1 else v + 1) :: mx x vs
theorem mx_sel (x : Nat) : ∀ vs, Sel vs (mx x vs)
  | [] => rfl
  | v :: vs => by
    simp only [mx]
    split
    · exact Or.inr (Or.inr ⟨_, rfl, mx_sel x vs⟩)
    · exact Or.inr (Or.inl ⟨_, rfl, mx_sel x vs⟩)
theorem lf_neg {v : Int} (h : 0 ≤ v) (x : Nat) : lf (-v - 1) x ↔ x.testBit (kO v) = true := by
  unfold lf lk
  rw [(lv_pos h).2]
  have : lb (-v - 1) = true := by unfold lb; simp; omega
  rw [this]
theorem lf_pos {v : Int} (h : 0 ≤ v) (x : Nat) : lf (v + 1) x ↔ x.testBit (kO v) = false := by
  unfold lf lk
  rw [(lv_pos h).1]
  have : lb (v + 1) = false := by unfold lb; simp; omega
  rw [this]
theorem mx_bits {x y : Nat} : ∀ {vs : List Int}, (∀ v ∈ vs, 0 ≤ v) → ((∀ l ∈ mx x vs, lf l y) ↔ ∀ v ∈ vs, x.testBit (kO v) = y.testBit (kO v))
  | [], _ => by simp [mx]
  | v :: vs, h => by
    have h0 := h v (by simp)
    have ih := mx_bits (x := x) (y := y) (vs := vs) (fun u hu => h u (by simp [hu]))
    simp only [mx, List.mem_cons, forall_eq_or_imp, ih]
    refine and_congr ?_ Iff.rfl
    cases hb : x.testBit (kO v)
    · simp only [Bool.false_eq_true, if_false]
      rw [lf_pos h0]
      exact ⟨fun h => h.symm, fun h => h.symm⟩
    · simp only [if_true]
      rw [lf_neg h0]
      exact ⟨fun h => h.symm, fun h => h.symm⟩

/-- The conjunction of the least implied clauses is the function. -/
theorem all_prime {T : List Bool} {vs : List Int} (hv : Vs vs) (hd : Dep T vs) {ls : List (List Int)} (hm : ∀ s, s ∈ ls ↔ Sel vs s ∧ Prime T s) {x : Nat} (hx : x < 65536) : allT ls x = T.getD x false := by
  cases ht : T.getD x false
  · have hi : Imp T (mx x vs) := fun y hy hl => by
      have := (mx_bits (x := x) (y := y) (fun v h => (hv.rng v h).1)).1 hl
      rw [← hd x y hx hy this]; exact ht
    obtain ⟨p, q1, q2, q3⟩ := prime_in _ (mx x vs) (Nat.le_refl _) (mx_sel x vs) hi
    unfold allT
    rw [List.all_eq_false]
    refine ⟨p, (hm p).2 ⟨q1, q2⟩, ?_⟩
    rw [List.any_eq_true]
    rintro ⟨l, h1, h2⟩
    have := (mx_bits (x := x) (y := x) (fun v h => (hv.rng v h).1)).2 (fun _ _ => rfl) l (q3 l h1)
    rw [lt1_iff.2 this] at h2
    simp at h2
  · unfold allT
    rw [List.all_eq_true]
    intro c hc
    have hp := ((hm c).1 hc).2.1
    rw [List.any_eq_true]
    refine Classical.byContradiction fun hn => ?_
    have := hp x hx (fun l hl => lt1_iff.1 (by
      cases hb : lt1 x l
      · rfl
      · exact absurd ⟨l, hl, hb⟩ hn))
    rw [ht] at this
    simp at this

/-- A function of clauses hangs on their variables alone. -/
theorem dep_all {vs : List Int} (hv : ∀ v ∈ vs, 0 ≤ v) {ls : List (List Int)} (hs : ∀ s ∈ ls, Sel vs s) : Dep (tl (allT ls)) vs := by
  intro x y hx hy h
  rw [getD_tl _ hx, getD_tl _ hy]
  unfold allT
  have hc : ∀ c ∈ ls, c.any (lt1 x) = c.any (lt1 y) := fun c hc => by
    have e : ∀ l ∈ c, lt1 x l = lt1 y l := fun l hl => by
      unfold lt1 lk
      rw [h _ (sel_lv hv (hs c hc) l hl)]
    rw [Bool.eq_iff_iff, List.any_eq_true, List.any_eq_true]
    exact ⟨fun ⟨l, a, b⟩ => ⟨l, a, by rw [← e l a]; exact b⟩, fun ⟨l, a, b⟩ => ⟨l, a, by rw [e l a]; exact b⟩⟩
  rw [Bool.eq_iff_iff, List.all_eq_true, List.all_eq_true]
  exact ⟨fun q c a => by rw [← hc c a]; exact q c a, fun q c a => by rw [hc c a]; exact q c a⟩

/-- How many of the bits lie below n. -/
def below (K : List Nat) (n : Nat) : Nat := (K.filter fun k => decide (k < n)).length
theorem below_le (K : List Nat) (n : Nat) : below K n ≤ K.length := List.length_filter_le _ _
theorem below_mono (K : List Nat) (n : Nat) : below K n ≤ below K (n + 1) := by
  unfold below
  induction K with
  | nil => simp
  | cons k K ih =>
    by_cases h : k < n
    · rw [List.filter_cons_of_pos (by simpa using h), List.filter_cons_of_pos (by simp; omega)]; simp; exact ih
    · rw [List.filter_cons_of_neg (by simpa using h)]
      by_cases h2 : k < n + 1
      · rw [List.filter_cons_of_pos (by simpa using h2)]; simp; omega
      · rw [List.filter_cons_of_neg (by simpa using h2)]; exact ih
theorem below_mem {K : List Nat} {n : Nat} (h : n ∈ K) : below K n + 1 ≤ below K (n + 1) := by
  induction K with
  | nil => simp at h
  | cons k K ih =>
    rcases List.mem_cons.1 h with e | e
    · subst e
      have := below_mono K n
      unfold below at *
      rw [List.filter_cons_of_neg (by simp), List.filter_cons_of_pos (by simp)]
      simp; omega
    · have := ih e
      unfold below at *
      by_cases h : k < n
      · rw [List.filter_cons_of_pos (by simpa using h), List.filter_cons_of_pos (by simp; omega)]; simp; omega
      · rw [List.filter_cons_of_neg (by simpa using h)]
        by_cases h2 : k < n + 1
        · rw [List.filter_cons_of_pos (by simpa using h2)]; simp; omega
        · rw [List.filter_cons_of_neg (by simpa using h2)]; omega

def DepN (n : Nat) (t : List Bool) (K : List Nat) : Prop := ∀ x y, x < 2 ^ n → y < 2 ^ n → (∀ k ∈ K, k < n → x.testBit k = y.testBit k) → t.getD x false = t.getD y false

theorem tk_get {t : List Bool} {m x : Nat} (h : x < m) : (t.take m).getD x false = t.getD x false := by
  rw [List.getD_eq_getElem?_getD, List.getD_eq_getElem?_getD, List.getElem?_take, if_pos h]
theorem dp_get {t : List Bool} {m x : Nat} : (t.drop m).getD x false = t.getD (m + x) false := by
  rw [List.getD_eq_getElem?_getD, List.getD_eq_getElem?_getD, List.getElem?_drop]

theorem dfs_dep {K : List Nat} (n : Nat) : ∀ (t : List Bool) (acc : List Key), t.length = 2 ^ n → DepN n t K → (dfs n t acc).length + 1 ≤ acc.length + 2 ^ below K n := by
  induction n with
  | zero => intro t acc _ _; simp [dfs]; exact Nat.one_le_two_pow
  | succ n ih =>
    intro t acc hl hd
    obtain ⟨l1, l2⟩ := half_len hl
    have hp : 2 ^ (n + 1) = 2 ^ n + 2 ^ n := by rw [Nat.pow_succ]; omega
    have d1 : DepN n (t.take (2 ^ n)) K := fun x y hx hy h => by
      rw [tk_get hx, tk_get hy]
      refine hd x y (by omega) (by omega) fun k hk hkn => ?_
      by_cases e : k = n
      · rw [e, Nat.testBit_lt_two_pow hx, Nat.testBit_lt_two_pow hy]
      · exact h k hk (by omega)
    have d2 : DepN n (t.drop (2 ^ n)) K := fun x y hx hy h => by
      rw [dp_get, dp_get]
      refine hd _ _ (by omega) (by omega) fun k hk hkn => ?_
      by_cases e : k = n
      · rw [e, Nat.testBit_two_pow_add_eq, Nat.testBit_two_pow_add_eq, Nat.testBit_lt_two_pow hx, Nat.testBit_lt_two_pow hy]
      · rw [Nat.testBit_two_pow_add_gt (by omega), Nat.testBit_two_pow_add_gt (by omega)]
        exact h k hk (by omega)
    have hm := Nat.pow_le_pow_right (n := 2) (by omega) (below_mono K n)
    rw [dfs_succ]
    split
    · have := ih (t.take (2 ^ n)) acc l1 d1
      omega
    · rename_i hne
      have hK : n ∈ K := by
        refine Classical.byContradiction fun hn => hne ?_
        apply List.ext_getElem
        · rw [l1, l2]
        · intro x h1 h2
          rw [l1] at h1
          have := hd x (2 ^ n + x) (by omega) (by omega) fun k hk hkn => by
            have : k ≠ n := fun e => hn (e ▸ hk)
            rw [Nat.testBit_two_pow_add_gt (by omega)]
          rw [← tk_get h1, ← dp_get, List.getD_eq_getElem?_getD, List.getD_eq_getElem?_getD, List.getElem?_eq_getElem (by rw [l1]; exact h1), List.getElem?_eq_getElem (by rw [l2]; exact h1)] at this
          simpa using this
      have hb : 2 ^ (below K n + 1) ≤ 2 ^ below K (n + 1) := Nat.pow_le_pow_right (by omega) (below_mem hK)
      rw [Nat.pow_succ] at hb
      have h1 : 1 ≤ 2 ^ below K n := Nat.one_le_two_pow
      split
      · omega
      · have a := ih (t.take (2 ^ n)) acc l1 d1
        have b := ih (t.drop (2 ^ n)) (dfs n (t.take (2 ^ n)) acc) l2 d2
        rw [List.length_append, List.length_cons, List.length_nil]
        omega

theorem cn_dep {T : List Bool} {vs : List Int} (hT : T.length = 65536) (hd : Dep T vs) (h8 : vs.length ≤ 8) : (cnNodes T).length ≤ 2000 := by
  have := dfs_dep (K := vs.map kO) 16 T [] (by rw [two16]; exact hT) (fun x y hx hy h => hd x y (by rw [← two16]; exact hx) (by rw [← two16]; exact hy) fun v hv => by
    by_cases hk : kO v < 16
    · exact h _ (List.mem_map.2 ⟨v, hv, rfl⟩) hk
    · rw [Nat.testBit_lt_two_pow (Nat.lt_of_lt_of_le hx (Nat.pow_le_pow_right (by omega) (by omega))), Nat.testBit_lt_two_pow (Nat.lt_of_lt_of_le hy (Nat.pow_le_pow_right (by omega) (by omega)))])
  have hb : 2 ^ below (vs.map kO) 16 ≤ 2 ^ 8 := Nat.pow_le_pow_right (by omega) (Nat.le_trans (below_le _ _) (by simpa using h8))
  unfold cnNodes cnAcc
  rw [List.length_map]
  simp only [List.length_nil, Nat.zero_add] at this
  omega

end Go.Proofs.Ythhogbligfmpdaa.Bd
