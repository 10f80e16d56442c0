/- How a formula and a diagram that came in are read. -/
import Derived.Test.YthhogbligfmpdaaRows
import Derived.Test.YthhogbligfmpdaaXe
import Derived.Deep.Strs
import Derived.Lib.SmallJoins
set_option linter.unusedVariables false
set_option linter.unusedSimpArgs false
namespace Go.Proofs.Ythhogbligfmpdaa
open Go.RowKit Bd

theorem cells24 : Try.prog.cellsOf 24 = 3 := by kernel_rfl
theorem cells22 : Try.prog.cellsOf 22 = 1 := by kernel_rfl
theorem cells3' : Try.prog.cellsOf 3 = 1 := by kernel_rfl
theorem cells27 : Try.prog.cellsOf 27 = 2 := by kernel_rfl
theorem cells25 : Try.prog.cellsOf 25 = 1 := by kernel_rfl
theorem cells77 : Try.prog.cellsOf 77 = 3 := by kernel_rfl

theorem len3 {α : Type} {l : List α} (h : l.length = 3) : ∃ a b c, l = [a, b, c] := by
  match l, h with
  | [a, b, c], _ => exact ⟨a, b, c, rfl⟩
theorem len2 {α : Type} {l : List α} (h : l.length = 2) : ∃ a b, l = [a, b] := by
  match l, h with
  | [a, b], _ => exact ⟨a, b, rfl⟩

/-- Three cells of an element. -/
theorem three_at {w : World} {b o : Nat} {sp : Option Nat} {i : Nat} {x y z : Value} (h : w.cells? 0 ((⟨b, o, sp⟩ : Addr).add (i * 3)) 3 = some [x, y, z]) : (i = 0 → sp = none) ∧ w.cell? ⟨b, o + i * 3, none⟩ = some x ∧ w.cell? ⟨b, o + i * 3 + 1, none⟩ = some y ∧ w.cell? ⟨b, o + i * 3 + 2, none⟩ = some z := by
  obtain ⟨_, _, hc⟩ := World.cells?_some h
  have h0 := hc 0 (by omega)
  have h1 := hc 1 (by omega)
  have h2 := hc 2 (by omega)
  rw [Deep.add_add] at h0 h1 h2
  simp only [Addr.add] at h0 h1 h2
  have s0 := World.cell?_spot (w := w) (v := x) (by simpa using h0)
  refine ⟨?_, ?_, ?_, ?_⟩
  · intro hi
    subst hi
    simpa using s0
  · by_cases hi : i * 3 = 0
    · have : i = 0 := by omega
      subst this
      simp at s0 h0
      subst s0
      simpa using h0
    · simpa [hi] using h0
  · simpa [Nat.add_assoc] using h1
  · simpa [Nat.add_assoc] using h2

theorem bulk_pos {H : Type} (d : DataW H) : 1 ≤ Rows.uptoBulk d := by
  cases d with
  | lit l => cases l <;> simp [Rows.uptoBulk]
  | nil => simp [Rows.uptoBulk]
  | ptr d => simp [Rows.uptoBulk]
  | slice elems spare => simp [Rows.uptoBulk]
  | agg parts => simp [Rows.uptoBulk]
  | iface t d => simp [Rows.uptoBulk]
  | map entries => simp [Rows.uptoBulk]
  | held h => simp [Rows.uptoBulk]
theorem bulk_part {H : Type} {d : DataW H} {l : List (DataW H)} (h : d ∈ l) : Rows.uptoBulk d ≤ Rows.uptoBulkAll l := by
  induction l with
  | nil => cases h
  | cons x r ih =>
    simp only [Rows.uptoBulkAll]
    cases List.mem_cons.1 h with
    | inl e => subst e; omega
    | inr e => have := ih e; omega
theorem bulk_len {H : Type} (l : List (DataW H)) : l.length ≤ Rows.uptoBulkAll l := by
  induction l with
  | nil => simp [Rows.uptoBulkAll]
  | cons x r ih => have := bulk_pos x; simp only [Rows.uptoBulkAll, List.length_cons]; omega
theorem cnt_bulk {H : Type} (f : Nat → Fm) (D : Nat → DataW H) (l : List Nat) (h : ∀ i ∈ l, cnt (f i) ≤ Rows.uptoBulk (D i)) : cnt.cntL (l.map f) ≤ Rows.uptoBulkAll (l.map D) := by
  induction l with
  | nil => simp [cnt.cntL]
  | cons x r ih =>
    have := ih (fun i hi => h i (List.mem_cons_of_mem _ hi))
    have := h x List.mem_cons_self
    simp only [List.map_cons, cnt.cntL, Rows.uptoBulkAll]; omega

theorem small_le {H : Type} {l : List (DataW H)} (hk : Rows.uptoSmall H l = true) : Rows.uptoBulkAll l ≤ 1048576 := by
  unfold Rows.uptoSmall at hk
  exact of_decide_eq_true hk

instance : Inhabited Fm := ⟨.mk 0 0 []⟩

/-- A FORMULA THAT CAME IN. -/
theorem fm_read {H : Type} {enc : TypeId × Value → H} {W : World} {sp : Nat → Bool} (k : Nat) : ∀ (fuel : Nat) (cs : List Value) (x : DataW H × List MemPlace), Rows.uptoBulk x.1 ≤ k → DataW.trod enc Try.prog W 0 sp true fuel 24 cs = some x →
    ∃ F a cap, cs = [.int .i64 F.op, .int .i64 F.var, .slice a F.kids.length cap] ∧ FmAt W F a ∧ cnt F ≤ Rows.uptoBulk x.1 := by
  induction k with
  | zero => intro fuel cs x hb; have := bulk_pos x.1; omega
  | succ k ih =>
    intro fuel cs x hb h
    obtain ⟨y0, y1, y2, n, rfl, hl, h0, h1, h2⟩ := Deep.trod_struct3 Try.underlying24 h
    rw [cells24] at hl
    obtain ⟨c0, c1, c2, rfl⟩ := len3 hl
    simp only [cells3', cells22] at h0 h1 h2
    obtain ⟨op, e0, rfl, _⟩ := DataW.trod_int Try.underlying3 h0
    obtain ⟨var, e1, rfl, _⟩ := DataW.trod_int Try.underlying3 h1
    simp at e0 e1
    subst e0 e1
    simp only [Rows.uptoBulk, Rows.uptoBulkAll] at hb ⊢
    rcases Deep.open_slice Try.underlying22 h2 with ⟨e2, rfl⟩ | ⟨a, len, cap, m, n', D, Pl, e2, _, hlc, hcm, hm, rfl, hD⟩
    · simp at e2
      subst e2
      refine ⟨.mk op var [], none, 0, rfl, fmAt_leaf _ _ _ _, ?_⟩
      simp [cnt, cnt.cntL, Rows.uptoBulk]
    · simp at e2
      subst e2
      have hml : len ≤ m := by rw [hm]; split <;> omega
      rw [cells24] at hD
      simp only [Rows.uptoBulk] at hb ⊢
      have hlen : len ≤ Rows.uptoBulkAll ((List.range len).map D) := by have := bulk_len ((List.range len).map D); simpa using this
      have each : ∀ i, i < len → ∃ q : Fm × Option Addr × Nat, W.cells? 0 (a.add (i * 3)) 3 = some [.int .i64 q.1.op, .int .i64 q.1.var, .slice q.2.1 q.1.kids.length q.2.2] ∧ FmAt W q.1 q.2.1 ∧ cnt q.1 ≤ Rows.uptoBulk (D i) := by
        intro i hi
        obtain ⟨cs', hc, ht⟩ := hD i (by omega)
        have hp : Rows.uptoBulk (D i) ≤ Rows.uptoBulkAll ((List.range len).map D) := bulk_part (List.mem_map.2 ⟨i, List.mem_range.2 hi, rfl⟩)
        obtain ⟨F, a', cap', e, hf, hcn⟩ := ih n' cs' (D i, Pl i) (by show Rows.uptoBulk (D i) ≤ k; omega) ht
        exact ⟨(F, a', cap'), by rw [hc, e], hf, hcn⟩
      obtain ⟨q, hq⟩ := Deep.choose_lt each
      refine ⟨.mk op var ((List.range len).map fun i => (q i).1), some a, cap, ?_, ?_, ?_⟩
      · simp [Fm.op, Fm.var, Fm.kids]
      · refine .mk op var _ _ (fun i => (q i).2.1) (fun i => (q i).2.2) (by unfold maxLen at hcm; simp; omega) (fun hne => ?_) (fun i hi => ?_)
        · have hpos : 0 < len := by
            have := List.length_pos_iff.2 hne
            simpa using this
          obtain ⟨b, o, spot⟩ := a
          have hs := (three_at (hq 0 hpos).1).1 rfl
          subst hs
          refine ⟨b, o, rfl, fun i hi => ?_⟩
          simp only [List.length_map, List.length_range] at hi
          have := three_at (hq i hi).1
          simpa using this.2
        · simp only [List.length_map, List.length_range] at hi
          simpa using (hq i hi).2.1
      · simp only [cnt]
        have := cnt_bulk (fun i => (q i).1) D (List.range len) (fun i hi => (hq i (List.mem_range.1 hi)).2.2)
        omega

theorem fm_arg {H : Type} {enc : TypeId × Value → H} {W : World} {cs : Array Value} {d : DataW H} {p : List MemPlace} (h : DataW.Trod enc Try.prog W 0 (fun _ => true) true 24 (.agg cs) d p) :
    ∃ F a cap, Value.agg cs = .agg #[.int .i64 F.op, .int .i64 F.var, .slice a F.kids.length cap] ∧ FmAt W F a ∧ cnt F ≤ Rows.uptoBulk d := by
  obtain ⟨fuel, hf⟩ := h
  obtain ⟨F, a, cap, ecs, hF, hcn⟩ := fm_read _ fuel _ (d, p) (Nat.le_refl _) hf
  refine ⟨F, a, cap, ?_, hF, hcn⟩
  congr 1
  apply Array.toList_inj.1
  simpa [Value.cells] using ecs

/-- A DIAGRAM THAT CAME IN. -/
theorem dg_arg {H : Type} {enc : TypeId × Value → H} {W : World} {cs : Array Value} {d : DataW H} {p : List MemPlace} (h : DataW.Trod enc Try.prog W 0 (fun _ => true) true 27 (.agg cs) d p) :
    ∃ ds a cap root, Value.agg cs = .agg #[.slice a ds.length cap, .int .i64 root] ∧ DAt W ds a ∧ ds.length ≤ 9223372036854775807 := by
  obtain ⟨fuel, hf⟩ := h
  obtain ⟨y0, y1, n, hx, hl, h0, h1⟩ := ChangeShapes.trod_struct2 Try.underlying27 hf
  rw [cells27] at hl
  obtain ⟨c0, c1, ec⟩ := len2 hl
  rw [ec] at h0 h1
  simp only [cells3', cells25] at h0 h1
  obtain ⟨root, e1, _, _⟩ := DataW.trod_int Try.underlying3 h1
  simp at e1
  subst e1
  have ecs : ∀ x, c0 = x → cs = #[x, .int .i64 root] := by
    intro x hx
    apply Array.toList_inj.1
    rw [← hx]
    simpa [Value.cells] using ec
  rcases Deep.open_slice Try.underlying25 h0 with ⟨e2, _⟩ | ⟨a, len, cap, m, n', D, Pl, e2, _, hlc, hcm, hm, _, hD⟩
  · simp at e2
    exact ⟨[], none, 0, root, by rw [ecs _ e2]; rfl, dAt_nil _ _, by simp⟩
  · simp at e2
    have hml : len ≤ m := by rw [hm]; split <;> omega
    rw [cells77] at hD
    have each : ∀ i, i < len → ∃ q : Nd, W.cells? 0 (a.add (i * 3)) 3 = some [.int .i64 q.1, .int .i64 q.2.1, .int .i64 q.2.2] := by
      intro i hi
      obtain ⟨cs', hc, ht⟩ := hD i (by omega)
      obtain ⟨z0, z1, z2, k, _, kl, t0, t1, t2⟩ := Deep.trod_struct3 Try.underlying77 ht
      rw [cells77] at kl
      obtain ⟨d0, d1, d2, rfl⟩ := len3 kl
      simp only [cells3'] at t0 t1 t2
      obtain ⟨v0, f0, _, _⟩ := DataW.trod_int Try.underlying3 t0
      obtain ⟨v1, f1, _, _⟩ := DataW.trod_int Try.underlying3 t1
      obtain ⟨v2, f2, _, _⟩ := DataW.trod_int Try.underlying3 t2
      simp at f0 f1 f2
      subst f0 f1 f2
      exact ⟨(v0, v1, v2), hc⟩
    obtain ⟨q, hq⟩ := Deep.choose_lt each
    unfold maxLen at hcm
    refine ⟨(List.range len).map q, some a, cap, root, ?_, ?_, by simp; omega⟩
    · rw [ecs _ e2]; simp
    · intro hne
      have hpos : 0 < len := by
        have := List.length_pos_iff.2 hne
        simpa using this
      obtain ⟨b, o, spot⟩ := a
      have hs := (three_at (hq 0 hpos)).1 rfl
      subst hs
      refine ⟨b, o, rfl, fun i hi => ?_⟩
      have hi' : i < len := by simpa using hi
      have := three_at (hq i hi')
      rw [nd_of_lt hi]
      simpa using this.2

end Go.Proofs.Ythhogbligfmpdaa
