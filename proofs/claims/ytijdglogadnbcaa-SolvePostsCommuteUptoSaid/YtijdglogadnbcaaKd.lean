/- How rows that came in are read; the law's list in the opposite order. -/
import Derived.Test.YtijdglogadnbcaaKa
import Derived.Test.YtijdglogadnbcaaRb
set_option linter.unusedVariables false
set_option linter.unusedSimpArgs false
set_option maxRecDepth 100000
set_option maxHeartbeats 40000000
namespace Go.Proofs.Ytijdglogadnbcaa
open Go.RowKit Nt Bl
theorem five_at {w : World} {b o : Nat} {sp : Option Nat} {i : Nat} {x y z u v : Value} (h : w.cells? 0 ((⟨b, o, sp⟩ : Addr).add (i * 5)) 5 = some [x, y, z, u, v]) : (i = 0 → sp = none) ∧ ∀ r t, [x, y, z, u, v][r]? = some t → w.cell? ⟨b, o + (i * 5 + r), none⟩ = some t := by
  obtain ⟨_, _, hc⟩ := World.cells?_some h
  have h0 := hc 0 (by omega)
  have h1 := hc 1 (by omega)
  have h2 := hc 2 (by omega)
  have h3 := hc 3 (by omega)
  have h4 := hc 4 (by omega)
  rw [Deep.add_add] at h0 h1 h2 h3 h4
  obtain ⟨s, h0⟩ := one_spot h0
  refine ⟨fun e => s (by omega), fun r t ht => ?_⟩
  match r, ht with
  | 0, ht => simp at ht; subst ht; simpa using h0
  | 1, ht => simp at ht; subst ht; simpa [Nat.add_assoc] using (one_spot h1).2
  | 2, ht => simp at ht; subst ht; simpa [Nat.add_assoc] using (one_spot h2).2
  | 3, ht => simp at ht; subst ht; simpa [Nat.add_assoc] using (one_spot h3).2
  | 4, ht => simp at ht; subst ht; simpa [Nat.add_assoc] using (one_spot h4).2
  | r + 5, ht => simp at ht
theorem bulk_pos {H : Type} (d : DataW H) : 1 ≤ Rows.uptoBulk d := by
  cases d with
  | lit l => cases l <;> simp [Rows.uptoBulk]
  | nil => simp [Rows.uptoBulk]
  | ptr d => simp [Rows.uptoBulk]
  | slice elems spare => simp [Rows.uptoBulk]
  | agg parts => simp [Rows.uptoBulk]
  | iface t d => simp [Rows.uptoBulk]
  | map entries => simp [Rows.uptoBulk]
  | held h => simp [Rows.uptoBulk]
theorem bulk_len {H : Type} (l : List (DataW H)) : l.length ≤ Rows.uptoBulkAll l := by
  induction l with
  | nil => simp [Rows.uptoBulkAll]
  | cons x r ih => have := bulk_pos x; simp only [Rows.uptoBulkAll, List.length_cons]; omega
theorem small_le {H : Type} {l : List (DataW H)} (hk : Rows.uptoSmall H l = true) : Rows.uptoBulkAll l ≤ 1048576 := by
  unfold Rows.uptoSmall at hk
  exact of_decide_eq_true hk
variable {H : Type} {enc : TypeId × Value → H} {W : World} {sp : Nat → Bool} {hd : Bool}
theorem rows_read {fuel : Nat} {v : Value} {x : DataW H × List MemPlace} (h : DataW.trod enc Try.prog W 0 sp hd fuel 22 [v] = some x) : ∃ l ra k cc, v = .slice ra k cc ∧ RwsAt W l ra ∧ l.length = k ∧ k ≤ cc ∧ cc ≤ 9223372036854775807 ∧ k ≤ Rows.uptoBulk x.1 := by
  rcases Deep.open_slice Try.underlying22 h with ⟨e2, _⟩ | ⟨a, len, cap, m, n', D, Pl, e2, _, hlc, hcm, hm, rfl, hD⟩
  · simp at e2
    exact ⟨[], none, 0, 0, e2, ⟨[], RwV.nil W, fun q => absurd rfl q⟩, rfl, Nat.le_refl _, by omega, Nat.zero_le _⟩
  · simp at e2
    have hlen : len ≤ Rows.uptoBulk (DataW.slice ((List.range len).map D) ((List.range (m - len)).map fun i => D (len + i))) := by
      simp only [Rows.uptoBulk]
      have := bulk_len ((List.range len).map D)
      simp at this
      omega
    have hml : len ≤ m := by rw [hm]; split <;> omega
    rw [cells27] at hD
    have each : ∀ i, i < len → ∃ (q : Rw) (ca : Option Addr) (cc : Nat) (N : Nw), W.cells? 0 (a.add (i * 5)) 5 = some (rw5 q ca cc N) ∧ Q5 W q ca cc N := by
      intro i hi
      obtain ⟨cs', hc, ht⟩ := hD i (by omega)
      obtain ⟨rel, l, B, ca, nc, cc, a1, n1, c1, b1, m1, d1, rfl, k1, k2, k3, k4, k5⟩ := rel_read ht
      subst k2
      exact ⟨⟨rel, l, B⟩, ca, cc, ⟨B.neg, a1, n1, c1, b1, m1, d1⟩, hc, ⟨k1, k3, k4, k5⟩⟩
    unfold maxLen at hcm
    obtain ⟨b, o, spot⟩ := a
    have all : ∀ k, k ≤ len → ∃ (l : List Rw) (vs : List Value), l.length = k ∧ RwV W l vs ∧ ∀ j u, vs[j]? = some u → W.cell? ⟨b, o + j, none⟩ = some u := by
      intro k
      induction k with
      | zero => intro _; exact ⟨[], [], rfl, RwV.nil W, fun j u hu => by simp at hu⟩
      | succ k ih =>
        intro hk
        obtain ⟨l, vs, e, V, C⟩ := ih (by omega)
        obtain ⟨q, ca, cc, N, c5, q5⟩ := each k (by omega)
        refine ⟨l ++ [q], vs ++ rw5 q ca cc N, by simp [e], V.push q5, fun j u hu => ?_⟩
        by_cases hj : j < vs.length
        · rw [List.getElem?_append_left hj] at hu; exact C j u hu
        · rw [List.getElem?_append_right (by omega)] at hu
          have := (five_at c5).2 _ u hu
          rwa [show k * 5 + (j - vs.length) = j from by rw [← e, ← V.1]; omega] at this
    obtain ⟨l, vs, e, V, C⟩ := all len (Nat.le_refl _)
    refine ⟨l, some ⟨b, o, spot⟩, len, cap, e2, ⟨vs, V, fun hne => ?_⟩, e, hlc, by omega, by first | exact hlen | (simp only [Rows.uptoBulk]; have := bulk_len ((List.range len).map D); simp at this; omega)⟩
    have hpos : 0 < len := by rw [← e]; exact List.length_pos_iff.2 hne
    obtain ⟨_, _, _, _, h0, _⟩ := each 0 hpos
    have hs := (five_at h0).1 rfl
    subst hs
    exact ⟨b, o, rfl, C⟩
theorem own_rws {w1 : World} {l : List Rw} {xs : List Value} {v : Value} {k base : Nat} (O : w1.ownsRow base 28 5 v k xs) (V : RwV w1 l xs) (hk : l.length = k) : ∃ ra cc, v = .slice ra k cc ∧ k ≤ cc ∧ cc ≤ 9223372036854775807 ∧ RwsAt w1 l ra := by
  rcases O.2 with ⟨rfl, e0⟩ | ⟨g, cap, cur, rfl, hb, hgg, hc, hm, _⟩
  · subst e0
    exact ⟨none, 0, rfl, Nat.le_refl _, by omega, xs, V, fun q => absurd (List.length_eq_zero_iff.1 hk) q⟩
  · refine ⟨some ⟨g, 0, none⟩, cap, rfl, hc, hm, xs, V, fun _ => ⟨g, 0, rfl, fun j u hu => ?_⟩⟩
    have := O.cells (g := g) rfl j u hu
    rwa [add_at] at this
theorem rev_next {l : List Rw} {j : Nat} (h : j < l.length) : l.reverse.take (j + 1) = l.reverse.take j ++ [rwAt l (l.length - 1 - j)] := by
  rw [take_next (by rw [List.length_reverse]; exact h)]
  congr 2
  unfold rwAt
  rw [List.getD_eq_getElem?_getD, List.getD_eq_getElem?_getD, List.getElem?_reverse h]
def BckL (w : World) (l : List Rw) (v7 v8 : Value) (wr : World) : Prop :=
  ∃ (j : Nat) (xs : List Value), j ≤ l.length ∧ v8 = .int .i64 ((l.length : Int) - 1 - (j : Int)) ∧ wr.ownsRow w.heap.size 28 5 v7 j xs ∧ RwV w (l.reverse.take j) xs ∧ Below w.heap.size w wr
/-- Range, whichever way. -/
def RgU (rows : List Rl) (n : Nat) (cl : List Cf) (u v : Option (Rat × Bool)) : Prop :=
  if rowN (n : Int) 3 cl ⟨false, [], [1]⟩ = 0 then IsSup (Sol (lns rows) n) (val n (cof (cfq cl))) u ∧ IsSup (Sol (lns rows) n) (val n (cof (negC (cfq cl)))) v else u = none ∧ v = none
theorem RgU.unique {rows rows' : List Rl} {n : Nat} {cl : List Cf} {u v u' v' : Option (Rat × Bool)} (h : RgU rows n cl u v) (h' : RgU rows' n cl u' v') (e : Sol (lns rows') n = Sol (lns rows) n) : u' = u ∧ v' = v := by
  unfold RgU at h h'
  rw [e] at h'
  split at h
  · rename_i q
    rw [if_pos q] at h'
    exact ⟨h'.1.unique h.1, h'.2.unique h.2⟩
  · rename_i q
    rw [if_neg q] at h'
    exact ⟨h'.1.trans h.1.symm, h'.2.trans h.2.symm⟩
theorem range2_any {w : World} {p n m rc nc cc : Nat} {ra ca : Option Addr} {mv : Value} {rows : List Rl} {l : List Cf} (h : SyR w p n m rc ra mv rows) (hl : CfAt w l ca) (hln : l.length = nc) (hc : nc ≤ cc) (hc2 : cc ≤ 9223372036854775807) :
    Calls Try.prog 5 #[.pointer (some ⟨p, 0, none⟩), .slice ca nc cc] w fun e w' => ∃ u v Lo Hi, e = .returned (.tuple #[rgV (kindV v) (kindV u) Lo Hi, .int .i64 (rowN (n : Int) 3 l ⟨false, [], [1]⟩)]) ∧ RgU rows n l u v ∧ EndV w' (fun q => -q) v Lo ∧ EndV w' (fun q => q) u Hi ∧ Below w.heap.size w w' := by
  refine (range_any h hl hln hc hc2).mono ?_
  rintro e w' (⟨h1, rfl, hb⟩ | ⟨h1, u, v, Hi, Lo, hu, hv, rfl, eL, eH, hb⟩)
  · exact ⟨none, none, Nw.zero, Nw.zero, rfl, by unfold RgU; rw [if_neg h1]; exact ⟨rfl, rfl⟩, rfl, rfl, hb⟩
  · exact ⟨u, v, Lo, Hi, by rw [h1], by unfold RgU; rw [if_pos h1]; exact ⟨hu, hv⟩, eL, eH, hb⟩
end Go.Proofs.Ytijdglogadnbcaa
