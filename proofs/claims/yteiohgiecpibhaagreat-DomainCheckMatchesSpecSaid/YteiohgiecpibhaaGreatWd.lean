/- domain.has, over sort.Search. -/
import Derived.Test.YteiohgiecpibhaaGreatWc
set_option linter.unusedVariables false
set_option linter.unusedSimpArgs false
set_option maxRecDepth 100000
set_option maxHeartbeats 4000000
namespace Go.Proofs.YteiohgiecpibhaaGreat
open Go.RowKit Fdm

theorem Qt.same {w W : World} (h : Qt w W) (g : Nat) : W.heap[g]? = w.heap[g]? := by obtain ⟨q, rfl⟩ := h; rfl
/-- What the closure reads. -/
structure HsB (W : World) (d : Dm) (v : Int) (a : Option Addr) (n c b0 b1 : Nat) : Prop where
  d : DmS W d a n c
  b0 : W.cell? ⟨b0, 0, none⟩ = some (.slice a n c)
  b1 : W.cell? ⟨b1, 0, none⟩ = some (.int .i64 v)
theorem HsB.qt {W W' : World} {d : Dm} {v : Int} {a : Option Addr} {n c b0 b1 : Nat} (h : HsB W d v a n c b0 b1) (q : Qt W W') : HsB W' d v a n c b0 b1 :=
  ⟨h.d.below q.below, q.cell h.b0, q.cell h.b1⟩
theorem hasF_any {W : World} {d : Dm} {v : Int} {a : Option Addr} {n c b0 b1 i : Nat} (h : HsB W d v a n c b0 b1) (hi : i < n) :
    Calls Tryz.prog 75 #[.int .i64 (i : Int), .pointer (some ⟨b0, 0, none⟩), .pointer (some ⟨b1, 0, none⟩)] W fun e w' => e = .returned (.bool (decide (v ≤ (sp d i).2))) ∧ Qt W w' := by
  obtain ⟨g, o, rfl, dd⟩ := h.d.read (by omega)
  have p1 := (dd i hi).2
  have q0 := h.b0; have q1 := h.b1
  have hc := h.d.cap; have hl := h.d.le
  obtain ⟨y, hy⟩ : ∃ y, (sp d i).2 = y := ⟨_, rfl⟩
  rw [hy] at p1
  rw [hy]
  clear dd h hy
  go_enter Tryz.func75, Tryz.ntmps75
  go_upto_region 1 with fail
  go_quiet (fail)
  go_wp2_with fail
  go_ret
  exact ⟨rfl, _, rfl⟩
def SeL (W : World) (d : Dm) (v : Int) (n : Nat) (v5 v6 : Value) (wr : World) : Prop :=
  ∃ i j : Nat, i ≤ j ∧ j ≤ n ∧ v5 = .int .i64 (i : Int) ∧ v6 = .int .i64 (j : Int) ∧ (∀ t, t < i → (sp d t).2 < v) ∧ (∀ t, j ≤ t → t < n → v ≤ (sp d t).2) ∧ Qt W wr
theorem ok_high {d : Dm} (h : Ok d) : ∀ j i, i < j → j < d.length → (sp d i).2 < (sp d j).1
  | 0, _, q, _ => absurd q (Nat.not_lt_zero _)
  | j + 1, i, q, hj => by
    have z := spanF_zero (h (j + 1) hj)
    have z4 := z.2.2.2 (by omega)
    rw [Nat.add_sub_cancel] at z4
    by_cases e : i = j
    · subst e; omega
    · have := ok_high h j i (by omega) (by omega)
      have y := spanF_zero (h j (by omega))
      omega
theorem ok_low {d : Dm} (h : Ok d) {i j : Nat} (hij : i ≤ j) (hj : j < d.length) : (sp d i).2 ≤ (sp d j).2 := by
  by_cases e : i = j
  · subst e; omega
  · have := ok_high h j i (by omega) hj
    have y := spanF_zero (h j hj)
    omega
theorem search_any {W : World} {d : Dm} {v : Int} {a : Option Addr} {n c b0 b1 : Nat} (h : HsB W d v a n c b0 b1) (ok : Ok d) (hn : n ≤ 100000) :
    Calls Tryz.prog 74 #[.int .i64 (n : Int), .func (.func 75) #[] #[.pointer (some ⟨b0, 0, none⟩), .pointer (some ⟨b1, 0, none⟩)]] W fun e w' =>
      ∃ i : Nat, i ≤ n ∧ e = .returned (.int .i64 (i : Int)) ∧ (∀ t, t < i → (sp d t).2 < v) ∧ (∀ t, i ≤ t → t < n → v ≤ (sp d t).2) ∧ Qt W w' := by
  have H := Lib.hid h; have OK := Lib.hid ok; have LN := Lib.hid h.d.len
  clear h ok
  go_enter Tryz.func74, Tryz.ntmps74
  go_wp2_with fail
  go_loopw [5, 6] (fun v5 v6 wr => SeL W d v n v5 v6 wr) (fun v5 v6 _ => (intOf v6).toNat - (intOf v5).toNat)
  case atStart => exact ⟨0, n, Nat.zero_le _, Nat.le_refl _, rfl, rfl, fun t ht => absurd ht (Nat.not_lt_zero _), fun t h1 h2 => absurd h2 (by omega), Qt.refl _⟩
  obtain ⟨i, j, hij, hj, rfl, rfl, f1, f2, hQ⟩ := hrel
  have F1 := Lib.hid f1; have F2 := Lib.hid f2; have Q := Lib.hid hQ
  clear f1 f2 hQ
  by_cases hlt : i < j
  · have hm : (((i : Int) + (j : Int)) / 2) = (((i + j) / 2 : Nat) : Int) := by omega
    obtain ⟨m, hme⟩ : ∃ m, (i + j) / 2 = m := ⟨_, rfl⟩
    rw [hme] at hm
    have m1 : i ≤ m := by omega
    have m2 : m < j := by omega
    have C := Lib.hid (hasF_any (H.out.qt Q.out) (show m < n by omega))
    clear hme
    by_cases hv : v ≤ (sp d m).2
    · rw [decide_eq_true hv] at C
      have G2 : Hid (∀ t, m ≤ t → t < n → v ≤ (sp d t).2) := fun t h1 h2 => by have := ok_low OK.out h1 (by rw [LN.out]; exact h2); omega
      clear hv
      go_upto_region 4 with fail
      go_wp2_with fail
      refine C.out.mono ?_
      rintro e w2 ⟨rfl, hq2⟩
      have Q2 := Lib.hid (Q.out.trans hq2)
      clear hq2
      go_wp2_with fail
      go_roundw
      case rel => exact ⟨i, m, m1, by omega, rfl, rfl, F1.out, G2.out, Q2.out⟩
      simp [intOf]; omega
    · rw [decide_eq_false hv] at C
      have G1 : Hid (∀ t, t < m + 1 → (sp d t).2 < v) := fun t h1 => by have := ok_low OK.out (show t ≤ m by omega) (by rw [LN.out]; omega); omega
      clear hv
      go_upto_region 4 with fail
      go_wp2_with fail
      refine C.out.mono ?_
      rintro e w2 ⟨rfl, hq2⟩
      have Q2 := Lib.hid (Q.out.trans hq2)
      clear hq2
      go_wp2_with fail
      go_roundw
      case rel => exact ⟨m + 1, j, by omega, hj, by go_num, rfl, G1.out, F2.out, Q2.out⟩
      simp [intOf]; omega
  obtain rfl : i = j := by omega
  go_wp2_with fail
  go_ret
  exact ⟨i, hj, rfl, F1.out, F2.out, Q.out⟩
theorem memF_ends {d : Dm} (ok : Ok d) {v : Int} {i : Nat} (h1 : ∀ t, t < i → (sp d t).2 < v) (h2 : ∀ t, i ≤ t → t < d.length → v ≤ (sp d t).2) : memF d v = (decide (i < d.length) && decide ((sp d i).1 ≤ v)) := by
  rw [Bool.eq_iff_iff]
  simp only [memF, List.any_eq_true, Bool.and_eq_true, decide_eq_true_eq]
  constructor
  · rintro ⟨s, hs, a, b⟩
    obtain ⟨t, ht, rfl⟩ := List.getElem_of_mem hs
    have e : sp d t = d[t] := by unfold sp; rw [List.getD_eq_getElem?_getD, List.getElem?_eq_getElem ht]; rfl
    rw [← e] at a b
    have hti : i ≤ t := Classical.byContradiction fun q => by have := h1 t (by omega); omega
    refine ⟨by omega, ?_⟩
    by_cases q : i = t
    · subst q; exact a
    · have := ok_high ok t i (by omega) ht
      have := h2 i (Nat.le_refl _) (by omega)
      omega
  · rintro ⟨hi, a⟩
    have e : sp d i = d[i] := by unfold sp; rw [List.getD_eq_getElem?_getD, List.getElem?_eq_getElem hi]; rfl
    exact ⟨d[i], List.getElem_mem hi, by rw [← e]; exact a, by rw [← e]; exact h2 i (Nat.le_refl _) hi⟩
theorem has_any {w : World} {d : Dm} {v : Int} {a : Option Addr} {n c : Nat} (h : DmS w d a n c) (ok : Ok d) (hn : n ≤ 100000) : Calls Tryz.prog 45 #[.slice a n c, .int .i64 v] w fun e w' => e = .returned (.bool (memF d v)) ∧ Below w.heap.size w w' := by
  have B : Hid (Below w.heap.size w ((w.alloc (.cells #[.slice a n c] 23)).alloc (.cells #[.int .i64 v] 3))) := over (below_new _ _) (below_new _ _)
  have HB : Hid (HsB ((w.alloc (.cells #[.slice a n c] 23)).alloc (.cells #[.int .i64 v] 3)) d v a n c w.heap.size (w.heap.size + 1)) := by
    refine ⟨h.below B.out, ?_, ?_⟩
    · exact cell_later (below_new _ _) (Nat.le_refl _) (by rw [cell_of_row _ _ _ _ _ _ (heap_alloc_new w _)]; rfl)
    · have e := heap_alloc_new (w.alloc (.cells #[.slice a n c] 23)) (.cells #[.int .i64 v] 3)
      rw [World.size_alloc] at e
      rw [cell_of_row _ _ _ _ _ _ e]; rfl
  have S := Lib.hid (search_any HB.out ok hn)
  have LN := Lib.hid h.len; have OK := Lib.hid ok
  have hc := h.cap; have hl := h.le
  clear h ok
  go_enter Tryz.func45, Tryz.ntmps45
  go_upto_region 1 with fail
  generalize (w.alloc (.cells #[.slice a n c] 23)).alloc (.cells #[.int .i64 v] 3) = W at *
  have q0 := HB.out.b0
  go_wp2_with fail
  refine S.out.mono ?_
  rintro e w2 ⟨i, hi, rfl, f1, f2, hq⟩
  have F := Lib.hid (memF_ends OK.out f1 (by rw [LN.out]; exact f2))
  rw [LN.out] at F
  have HB2 := Lib.hid (HB.out.qt hq)
  have B2 := Lib.hid (over B.out hq.below)
  clear f1 f2 hq q0
  have q0 := HB2.out.b0
  have q1 := HB2.out.b1
  by_cases hlt : i < n
  · obtain ⟨g, o, rfl, dd⟩ := HB2.out.d.read (by omega)
    have p0 := (dd i hlt).1
    obtain ⟨x, hx⟩ : ∃ x, (sp d i).1 = x := ⟨_, rfl⟩
    rw [hx] at p0 F
    have hlt' : decide (i < n) = true := by simp [hlt]
    rw [hlt', Bool.true_and] at F
    clear dd hx
    go_upto_region 2 with fail
    go_quiet (fail)
    go_wp2_with fail
    go_ret
    exact ⟨by rw [F.out]; rfl, over B2.out (Qt.below ⟨nq, rfl⟩)⟩
  · obtain rfl : n = i := by omega
    have F2 : Hid (memF d v = false) := by show _ = _; rw [F.out]; simp
    clear hlt F
    go_upto_region 2 with fail
    go_quiet (fail)
    go_wp2_with fail
    go_ret
    exact ⟨by rw [F2.out]; rfl, over B2.out (Qt.below ⟨nq, rfl⟩)⟩
end Go.Proofs.YteiohgiecpibhaaGreat
