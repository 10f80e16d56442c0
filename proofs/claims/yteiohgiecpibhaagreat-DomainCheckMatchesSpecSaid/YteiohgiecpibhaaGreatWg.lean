/- slices.Clone and Clip of domains, of lists of domains, of numbers. Printed by gwg.py. -/
import Derived.Test.YteiohgiecpibhaaGreatWf
set_option linter.unusedVariables false
set_option linter.unusedSimpArgs false
set_option maxRecDepth 100000
set_option maxHeartbeats 4000000
namespace Go.Proofs.YteiohgiecpibhaaGreat
open Go.RowKit Fdm

theorem add_at (g o j : Nat) : (⟨g, o, none⟩ : Addr).add j = ⟨g, o + j, none⟩ := by unfold Addr.add; split <;> simp_all
theorem info23 : (Tryz.prog.info? 23).map (fun i => (i.zero, i.size, i.bytes)) = some (some (.slice none 0 0), 1, 24) := by kernel_rfl
theorem info3 : (Tryz.prog.info? 3).map (fun i => (i.zero, i.size, i.bytes)) = some (some (.int .i64 0), 1, 8) := by kernel_rfl

/-- slices.Clone: the cells in new memory. -/
theorem clone67 {w : World} {vs : List Value} {a : Option Addr} {n c : Nat} (hv : vs.length = n * 2) (h1 : ∀ u ∈ vs, u.oneCell' = true) (ha : n ≠ 0 → ∃ g o, a = some ⟨g, o, none⟩ ∧ ∀ j u, vs[j]? = some u → w.cell? ⟨g, o + j, none⟩ = some u) (hn : n ≤ 1000000) :
    Calls Tryz.prog 67 #[.slice a n c] w fun e w' => ∃ v', e = .returned v' ∧ OwP (fun _ => True) w' w.heap.size 63 2 v' n vs ∧ Below w.heap.size w w' := by
  obtain ⟨i0, hi0, hz0, hz1, hz2⟩ := info_parts info63
  have VL := Lib.hid hv; have VO := Lib.hid h1
  cases a with
  | none =>
    have n0 : n = 0 := by
      refine Classical.byContradiction fun q => ?_
      obtain ⟨g, o, e, _⟩ := ha q
      simp at e
    subst n0
    have v0 : vs = [] := List.length_eq_zero_iff.1 (by omega)
    clear VL VO hv ha hn h1
    subst v0
    have he := fun (w : World) => Lib.run_eql_slice_nil (P := Tryz.prog) w 23 63 none 0 c 0 0 Tryz.underlying23
    go_enter Tryz.func67, Tryz.ntmps67
    go_wp2_with fail
    go_ret
    exact ⟨_, rfl, OwP.nil _ _ _ _ _, Below.refl _ _⟩
  | some ad =>
    have SRC : Hid (∀ j u, vs[j]? = some u → (w.alloc (.cells #[] 63)).cell? (ad.add j) = some u) := by
      intro j u hu
      have hne : n ≠ 0 := fun q => by
        have : vs = [] := List.length_eq_zero_iff.1 (by rw [hv, q])
        rw [this] at hu; simp at hu
      obtain ⟨g, o, q, k⟩ := ha hne
      simp only [Option.some.injEq] at q
      subst q
      rw [add_at]
      exact cell_later (below_new w _) (Nat.le_refl _) (k j u hu)
    have OW : Hid (OwP (fun _ => True) (w.alloc (.cells #[] 63)) w.heap.size 63 2 (.slice (some ⟨w.heap.size, 0, none⟩) 0 0) 0 []) := ⟨World.ownsRow_made w #[] 0 (Nat.le_refl _) (Nat.zero_le _) (by simp), fun _ _ _ _ _ => trivial⟩
    have B0 : Hid (Below w.heap.size w (w.alloc (.cells #[] 63))) := below_new w _
    have he := fun (w : World) => Lib.run_eql_slice_nil (P := Tryz.prog) w 23 63 (some ad) n c 0 0 Tryz.underlying23
    clear hv ha h1
    go_enter Tryz.func67, Tryz.ntmps67
    go_wp2_with (at_builtin; refine wpList_append_op rfl _ _ 23 rfl w.heap.size 63 i0 (.agg #[.int .i64 0, .int .i64 0]) 2 16 Tryz.underlying23 hi0 hz0 hz1 hz2 rfl (by omega) (fun _ _ => trivial) (.slice (some ⟨w.heap.size, 0, none⟩) 0 0) 0 [] rfl OW.out ad n c vs rfl VL.out SRC.out VO.out (fun _ _ => trivial) (by unfold maxLen; omega) (by omega) B0.out.size ?_; intro v4 w4 hown4 hgrow4 _; have OW4 := Lib.hid hown4; have GR4 := Lib.hid hgrow4; clear hown4 hgrow4)
    go_ret
    have o := OW4.out
    rw [Nat.zero_add, List.nil_append] at o
    exact ⟨_, rfl, o, below_own B0.out OW.out.own B0.out.size GR4.out⟩

/-- slices.Clone: the cells in new memory. -/
theorem clone99 {w : World} {vs : List Value} {a : Option Addr} {n c : Nat} (hv : vs.length = n * 1) (h1 : ∀ u ∈ vs, u.oneCell' = true) (ha : n ≠ 0 → ∃ g o, a = some ⟨g, o, none⟩ ∧ ∀ j u, vs[j]? = some u → w.cell? ⟨g, o + j, none⟩ = some u) (hn : n ≤ 1000000) :
    Calls Tryz.prog 99 #[.slice a n c] w fun e w' => ∃ v', e = .returned v' ∧ OwP (fun _ => True) w' w.heap.size 23 1 v' n vs ∧ Below w.heap.size w w' := by
  obtain ⟨i0, hi0, hz0, hz1, hz2⟩ := info_parts info23
  have VL := Lib.hid hv; have VO := Lib.hid h1
  cases a with
  | none =>
    have n0 : n = 0 := by
      refine Classical.byContradiction fun q => ?_
      obtain ⟨g, o, e, _⟩ := ha q
      simp at e
    subst n0
    have v0 : vs = [] := List.length_eq_zero_iff.1 (by omega)
    clear VL VO hv ha hn h1
    subst v0
    have he := fun (w : World) => Lib.run_eql_slice_nil (P := Tryz.prog) w 28 23 none 0 c 0 0 Tryz.underlying28
    go_enter Tryz.func99, Tryz.ntmps99
    go_wp2_with fail
    go_ret
    exact ⟨_, rfl, OwP.nil _ _ _ _ _, Below.refl _ _⟩
  | some ad =>
    have SRC : Hid (∀ j u, vs[j]? = some u → (w.alloc (.cells #[] 23)).cell? (ad.add j) = some u) := by
      intro j u hu
      have hne : n ≠ 0 := fun q => by
        have : vs = [] := List.length_eq_zero_iff.1 (by rw [hv, q])
        rw [this] at hu; simp at hu
      obtain ⟨g, o, q, k⟩ := ha hne
      simp only [Option.some.injEq] at q
      subst q
      rw [add_at]
      exact cell_later (below_new w _) (Nat.le_refl _) (k j u hu)
    have OW : Hid (OwP (fun _ => True) (w.alloc (.cells #[] 23)) w.heap.size 23 1 (.slice (some ⟨w.heap.size, 0, none⟩) 0 0) 0 []) := ⟨World.ownsRow_made w #[] 0 (Nat.le_refl _) (Nat.zero_le _) (by simp), fun _ _ _ _ _ => trivial⟩
    have B0 : Hid (Below w.heap.size w (w.alloc (.cells #[] 23))) := below_new w _
    have he := fun (w : World) => Lib.run_eql_slice_nil (P := Tryz.prog) w 28 23 (some ad) n c 0 0 Tryz.underlying28
    clear hv ha h1
    go_enter Tryz.func99, Tryz.ntmps99
    go_wp2_with (at_builtin; refine wpList_append_op rfl _ _ 28 rfl w.heap.size 23 i0 (.slice none 0 0) 1 24 Tryz.underlying28 hi0 hz0 hz1 hz2 rfl (by omega) (fun _ _ => trivial) (.slice (some ⟨w.heap.size, 0, none⟩) 0 0) 0 [] rfl OW.out ad n c vs rfl VL.out SRC.out VO.out (fun _ _ => trivial) (by unfold maxLen; omega) (by omega) B0.out.size ?_; intro v4 w4 hown4 hgrow4 _; have OW4 := Lib.hid hown4; have GR4 := Lib.hid hgrow4; clear hown4 hgrow4)
    go_ret
    have o := OW4.out
    rw [Nat.zero_add, List.nil_append] at o
    exact ⟨_, rfl, o, below_own B0.out OW.out.own B0.out.size GR4.out⟩

/-- slices.Clone: the cells in new memory. -/
theorem clone63 {w : World} {vs : List Value} {a : Option Addr} {n c : Nat} (hv : vs.length = n * 1) (h1 : ∀ u ∈ vs, u.oneCell' = true) (ha : n ≠ 0 → ∃ g o, a = some ⟨g, o, none⟩ ∧ ∀ j u, vs[j]? = some u → w.cell? ⟨g, o + j, none⟩ = some u) (hn : n ≤ 1000000) :
    Calls Tryz.prog 63 #[.slice a n c] w fun e w' => ∃ v', e = .returned v' ∧ OwP (fun _ => True) w' w.heap.size 3 1 v' n vs ∧ Below w.heap.size w w' := by
  obtain ⟨i0, hi0, hz0, hz1, hz2⟩ := info_parts info3
  have VL := Lib.hid hv; have VO := Lib.hid h1
  cases a with
  | none =>
    have n0 : n = 0 := by
      refine Classical.byContradiction fun q => ?_
      obtain ⟨g, o, e, _⟩ := ha q
      simp at e
    subst n0
    have v0 : vs = [] := List.length_eq_zero_iff.1 (by omega)
    clear VL VO hv ha hn h1
    subst v0
    have he := fun (w : World) => Lib.run_eql_slice_nil (P := Tryz.prog) w 30 3 none 0 c 0 0 Tryz.underlying30
    go_enter Tryz.func63, Tryz.ntmps63
    go_wp2_with fail
    go_ret
    exact ⟨_, rfl, OwP.nil _ _ _ _ _, Below.refl _ _⟩
  | some ad =>
    have SRC : Hid (∀ j u, vs[j]? = some u → (w.alloc (.cells #[] 3)).cell? (ad.add j) = some u) := by
      intro j u hu
      have hne : n ≠ 0 := fun q => by
        have : vs = [] := List.length_eq_zero_iff.1 (by rw [hv, q])
        rw [this] at hu; simp at hu
      obtain ⟨g, o, q, k⟩ := ha hne
      simp only [Option.some.injEq] at q
      subst q
      rw [add_at]
      exact cell_later (below_new w _) (Nat.le_refl _) (k j u hu)
    have OW : Hid (OwP (fun _ => True) (w.alloc (.cells #[] 3)) w.heap.size 3 1 (.slice (some ⟨w.heap.size, 0, none⟩) 0 0) 0 []) := ⟨World.ownsRow_made w #[] 0 (Nat.le_refl _) (Nat.zero_le _) (by simp), fun _ _ _ _ _ => trivial⟩
    have B0 : Hid (Below w.heap.size w (w.alloc (.cells #[] 3))) := below_new w _
    have he := fun (w : World) => Lib.run_eql_slice_nil (P := Tryz.prog) w 30 3 (some ad) n c 0 0 Tryz.underlying30
    clear hv ha h1
    go_enter Tryz.func63, Tryz.ntmps63
    go_wp2_with (at_builtin; refine wpList_append_op rfl _ _ 30 rfl w.heap.size 3 i0 (.int .i64 0) 1 8 Tryz.underlying30 hi0 hz0 hz1 hz2 rfl (by omega) (fun _ _ => trivial) (.slice (some ⟨w.heap.size, 0, none⟩) 0 0) 0 [] rfl OW.out ad n c vs rfl VL.out SRC.out VO.out (fun _ _ => trivial) (by unfold maxLen; omega) (by omega) B0.out.size ?_; intro v4 w4 hown4 hgrow4 _; have OW4 := Lib.hid hown4; have GR4 := Lib.hid hgrow4; clear hown4 hgrow4)
    go_ret
    have o := OW4.out
    rw [Nat.zero_add, List.nil_append] at o
    exact ⟨_, rfl, o, below_own B0.out OW.out.own B0.out.size GR4.out⟩

theorem spv_get {d : Dm} {j : Nat} {u : Value} (h : (spv d)[j]? = some u) : j / 2 < d.length ∧ (j % 2 = 0 → u = .int .i64 (sp d (j / 2)).1) ∧ (j % 2 = 1 → u = .int .i64 (sp d (j / 2)).2) := by
  have hj : j < (spv d).length := (List.getElem?_eq_some_iff.1 h).1
  rw [spv_len] at hj
  have q := spv_at d (j / 2) (by omega)
  refine ⟨by omega, fun e => ?_, fun e => ?_⟩
  · rw [show j / 2 * 2 = j from by omega, h] at q
    exact Option.some.inj q.1
  · rw [show j / 2 * 2 + 1 = j from by omega, h] at q
    exact Option.some.inj q.2
theorem spv_one (d : Dm) : ∀ u ∈ spv d, u.oneCell' = true := by
  intro u hu
  simp only [spv, List.mem_flatMap] at hu
  obtain ⟨s, _, hu⟩ := hu
  simp at hu
  rcases hu with rfl | rfl <;> rfl
theorem cloneD_any {w : World} {d : Dm} {a : Option Addr} {n c : Nat} (h : DmS w d a n c) (hn : n ≤ 1000000) : Calls Tryz.prog 67 #[.slice a n c] w (DmPost w d) := by
  have hl := h.len
  subst hl
  refine (clone67 (vs := spv d) (spv_len d) (spv_one d) (fun h0 => ?_) hn).mono ?_
  · obtain ⟨g, o, e, k⟩ := h.read (by omega)
    refine ⟨g, o, e, fun j u hu => ?_⟩
    obtain ⟨h1, h2, h3⟩ := spv_get hu
    have := k (j / 2) h1
    by_cases e : j % 2 = 0
    · rw [h2 e]
      have := this.1
      rwa [show o + j / 2 * 2 = o + j from by omega] at this
    · rw [h3 (by omega)]
      have := this.2
      rwa [show o + j / 2 * 2 + 1 = o + j from by omega] at this
  · rintro e w' ⟨v', rfl, o, b⟩
    exact ⟨v', rfl, DmO.v (base := w.heap.size) ⟨o⟩ (by omega), b⟩

/-- A list of domains in memory. -/
def DsA (w : World) (D : List Dm) (a : Option Addr) : Prop := D ≠ [] → ∃ g o, a = some ⟨g, o, none⟩ ∧ ∀ i, i < D.length → ∃ u, w.cell? ⟨g, o + i, none⟩ = some u ∧ DmV w (dm D i) u
structure DsV (w : World) (D : List Dm) (v : Value) : Prop where
  ex : ∃ a c, v = .slice a D.length c ∧ D.length ≤ c ∧ c ≤ 9223372036854775807 ∧ DsA w D a
theorem DsA.below {w w' : World} {D : List Dm} {a : Option Addr} (h : DsA w D a) (hb : Below w.heap.size w w') : DsA w' D a := fun hne => by
  obtain ⟨g, o, e, k⟩ := h hne
  refine ⟨g, o, e, fun i hi => ?_⟩
  obtain ⟨u, p, q⟩ := k i hi
  exact ⟨u, cell_later hb (Nat.le_refl _) p, q.below hb⟩
theorem DsV.below {w w' : World} {D : List Dm} {v : Value} (h : DsV w D v) (hb : Below w.heap.size w w') : DsV w' D v := by
  obtain ⟨a, c, e, h1, h2, h3⟩ := h.ex
  exact ⟨a, c, e, h1, h2, h3.below hb⟩
/-- A list of domains in a block of its own. -/
structure DsG (w : World) (g : Nat) (D : List Dm) : Prop where
  blk : Blk w g 23
  cs : ∀ i, i < D.length → ∃ u, w.cell? ⟨g, i, none⟩ = some u ∧ DmV w (dm D i) u
def DsO (w : World) (base : Nat) (D : List Dm) (v : Value) : Prop := ∃ a c, v = .slice a D.length c ∧ D.length ≤ c ∧ c ≤ 9223372036854775807 ∧ (D ≠ [] → ∃ g, a = some ⟨g, 0, none⟩ ∧ base ≤ g ∧ DsG w g D)
theorem DmV.one {w : World} {d : Dm} {u : Value} (h : DmV w d u) : u.oneCell' = true := by
  obtain ⟨a, c, rfl, _⟩ := h.ex
  rfl
theorem list_of {n : Nat} {p : Nat → Value → Prop} (h : ∀ i, i < n → ∃ u, p i u) : ∃ vs : List Value, vs.length = n ∧ ∀ i, i < n → ∃ u, vs[i]? = some u ∧ p i u := by
  induction n with
  | zero => exact ⟨[], rfl, fun i hi => absurd hi (Nat.not_lt_zero _)⟩
  | succ n ih =>
    obtain ⟨vs, hl, hp⟩ := ih fun i hi => h i (by omega)
    obtain ⟨u, hu⟩ := h n (by omega)
    refine ⟨vs ++ [u], by simp [hl], fun i hi => ?_⟩
    by_cases e : i < n
    · obtain ⟨x, h1, h2⟩ := hp i e
      exact ⟨x, by rw [List.getElem?_append_left (by omega)]; exact h1, h2⟩
    · obtain rfl : i = n := by omega
      exact ⟨u, by rw [List.getElem?_append_right (by omega), hl, Nat.sub_self]; rfl, hu⟩
theorem cloneDs_any {w : World} {D : List Dm} {a : Option Addr} {n c : Nat} (h : DsA w D a) (hl : D.length = n) (hn : n ≤ 1000) :
    Calls Tryz.prog 99 #[.slice a n c] w fun e w' => ∃ v', e = .returned v' ∧ DsO w' w.heap.size D v' ∧ Below w.heap.size w w' := by
  subst hl
  have X : ∃ vs : List Value, vs.length = D.length ∧ (∀ i, i < D.length → ∃ u, vs[i]? = some u ∧ DmV w (dm D i) u) ∧ (D.length ≠ 0 → ∃ g o, a = some ⟨g, o, none⟩ ∧ ∀ j u, vs[j]? = some u → w.cell? ⟨g, o + j, none⟩ = some u) := by
    by_cases h0 : D = []
    · subst h0
      exact ⟨[], rfl, fun i hi => absurd hi (Nat.not_lt_zero _), fun q => absurd rfl q⟩
    · obtain ⟨g, o, e, k⟩ := h h0
      obtain ⟨vs, hl, hp⟩ := list_of k
      refine ⟨vs, hl, fun i hi => ?_, fun _ => ⟨g, o, e, fun j u hu => ?_⟩⟩
      · obtain ⟨u, h1, h2, h3⟩ := hp i hi
        exact ⟨u, h1, h3⟩
      · obtain ⟨x, h1, h2, _⟩ := hp j (by rw [← hl]; exact (List.getElem?_eq_some_iff.1 hu).1)
        rw [h1] at hu
        rw [← Option.some.inj hu]; exact h2
  obtain ⟨vs, hv, hp, hc⟩ := X
  refine (clone99 (vs := vs) (by rw [hv, Nat.mul_one]) (fun u hu => ?_) hc (by omega)).mono ?_
  · obtain ⟨j, hj, rfl⟩ := List.getElem_of_mem hu
    obtain ⟨x, h1, h2⟩ := hp j (by omega)
    rw [List.getElem?_eq_getElem hj] at h1
    rw [Option.some.inj h1]; exact h2.one
  · rintro e w' ⟨v', rfl, ow, b⟩
    refine ⟨v', rfl, ?_, b⟩
    rcases ow.own.2 with ⟨rfl, h0⟩ | ⟨g, cap, cur, rfl, hb, hg, hnc, hcm, hcs, htake⟩
    · have : D = [] := List.length_eq_zero_iff.1 h0
      subst this
      exact ⟨none, 0, rfl, Nat.le_refl _, by omega, fun q => absurd rfl q⟩
    · refine ⟨_, cap, rfl, hnc, by unfold maxLen at hcm; omega, fun _ => ⟨g, rfl, hb, ⟨_, hg⟩, fun i hi => ?_⟩⟩
      obtain ⟨u, h1, h2⟩ := hp i hi
      have := ow.own.cellAt (g := g) (j := i) (by omega)
      exact ⟨u, this.trans h1, h2.below b⟩
theorem clipDs_any {w : World} {a : Option Addr} {n c : Nat} (h : n ≤ c) (hc : c ≤ 9223372036854775807) : Calls Tryz.prog 68 #[.slice a n c] w fun e w' => e = .returned (.slice a n n) ∧ w' = w := by
  go_enter Tryz.func68, Tryz.ntmps68
  go_wp2_with fail
  go_ret
  exact ⟨rfl, rfl⟩
theorem clipPs_any {w : World} {a : Option Addr} {n c : Nat} (h : n ≤ c) (hc : c ≤ 9223372036854775807) : Calls Tryz.prog 100 #[.slice a n c] w fun e w' => e = .returned (.slice a n n) ∧ w' = w := by
  go_enter Tryz.func100, Tryz.ntmps100
  go_wp2_with fail
  go_ret
  exact ⟨rfl, rfl⟩
end Go.Proofs.YteiohgiecpibhaaGreat
