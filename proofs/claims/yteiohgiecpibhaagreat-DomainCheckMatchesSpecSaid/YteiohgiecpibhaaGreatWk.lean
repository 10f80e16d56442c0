/- slices.Index of a list of marks; slices.Contains. -/
import Derived.Test.YteiohgiecpibhaaGreatWj
set_option linter.unusedVariables false
set_option linter.unusedSimpArgs false
set_option maxRecDepth 100000
set_option maxHeartbeats 4000000
namespace Go.Proofs.YteiohgiecpibhaaGreat
open Go.RowKit Fdm

/-- Marks in a block of their own. -/
structure BoF (w : World) (g : Nat) (l : List Bool) : Prop where
  blk : Blk w g 4
  cs : ∀ i, i < l.length → w.cell? ⟨g, i, none⟩ = some (.bool (l.getD i false))
theorem BoF.keep {w w' : World} {g : Nat} {l : List Bool} (h : BoF w g l) (e : w'.heap[g]? = w.heap[g]?) : BoF w' g l := ⟨h.blk.keep e, fun i hi => (cells_same e i).trans (h.cs i hi)⟩
theorem BoF.below {w w' : World} {g : Nat} {l : List Bool} (h : BoF w g l) (hb : Below w.heap.size w w') : BoF w' g l := h.keep (hb.block _ h.blk.lt)
theorem BoF.set {w : World} {g i : Nat} {l : List Bool} (h : BoF w g l) (hi : i < l.length) (b : Bool) : BoF (w.setCell ⟨g, i, none⟩ (.bool b)) g (l.set i b) := by
  refine ⟨h.blk.setCell _ _ _, fun j hj => ?_⟩
  rw [List.length_set] at hj
  by_cases e : j = i
  · subst e
    rw [World.cell?_setCell_same' _ _ _ (by rw [h.cs j hj]; rfl), List.getD_eq_getElem?_getD, List.getElem?_set_self hj]; rfl
  · rw [World.cell?_setCell_other _ _ _ _ (by intro q; injection q with _ q _; omega), h.cs j hj, List.getD_eq_getElem?_getD, List.getD_eq_getElem?_getD, List.getElem?_set_ne (Ne.symm e)]
theorem firstT_from : ∀ (l : List Bool) (j : Nat), firstT l j = (firstT l 0).map (· + j)
  | [], _ => rfl
  | true :: l, j => by simp [firstT]
  | false :: l, j => by
    simp only [firstT, Bool.false_eq_true, if_false]
    rw [firstT_from l (j + 1), firstT_from l (0 + 1), Option.map_map]
    congr 1
    funext x
    simp; omega
theorem firstT_some : ∀ {l : List Bool} {k : Nat}, (∀ i, i < k → l.getD i false = false) → k < l.length → l.getD k false = true → firstT l 0 = some k
  | [], k, _, h, _ => absurd h (Nat.not_lt_zero _)
  | b :: l, 0, _, _, h => by
    have : b = true := h
    subst this; rfl
  | b :: l, k + 1, f, h, e => by
    have hb : b = false := f 0 (by omega)
    subst hb
    have := firstT_some (l := l) (k := k) (fun i hi => f (i + 1) (by omega)) (by simpa using h) e
    simp only [firstT, Bool.false_eq_true, if_false]
    rw [firstT_from, this]; rfl
theorem firstT_none : ∀ {l : List Bool}, (∀ i, i < l.length → l.getD i false = false) → firstT l 0 = none
  | [], _ => rfl
  | b :: l, f => by
    have hb : b = false := f 0 (by simp)
    subst hb
    have := firstT_none (l := l) (fun i hi => f (i + 1) (by simp; omega))
    simp only [firstT, Bool.false_eq_true, if_false]
    rw [firstT_from, this]; rfl
def idxT (l : List Bool) : Int := match firstT l 0 with | none => -1 | some i => (i : Int)
def IxL (w : World) (l : List Bool) (v8 : Value) (wr : World) : Prop := ∃ k : Nat, k ≤ l.length ∧ v8 = .int .i64 (k : Int) ∧ (∀ i, i < k → l.getD i false = false) ∧ wr = w
theorem index_any {w : World} {g n : Nat} {l : List Bool} (h : BoF w g l) (hn : l.length = n) (h1 : n ≤ 9223372036854775807) : Calls Tryz.prog 113 #[.slice (some ⟨g, 0, none⟩) n n, .bool true] w fun e w' => e = .returned (.int .i64 (idxT l)) ∧ w' = w := by
  have H := Lib.hid h; have N := Lib.hid hn
  clear h hn
  go_enter Tryz.func113, Tryz.ntmps113
  go_wp2_with fail
  go_loopw [8] (fun v8 wr => IxL w l v8 wr) (fun v8 _ => n - (intOf v8).toNat)
  case atStart => exact ⟨0, Nat.zero_le _, rfl, fun i hi => absurd hi (Nat.not_lt_zero _), rfl⟩
  obtain ⟨k, hk, rfl, hf, rfl⟩ := hrel
  have F := Lib.hid hf
  rw [N.out] at hk
  clear hf
  by_cases hlt : k < n
  · have p0 := H.out.cs k (by rw [N.out]; exact hlt)
    obtain ⟨b, hb⟩ : ∃ b, l.getD k false = b := ⟨_, rfl⟩
    rw [hb] at p0
    cases b with
    | true =>
      have E : Hid (idxT l = (k : Int)) := by show _ = _; unfold idxT; rw [firstT_some F.out (by rw [N.out]; exact hlt) hb]
      clear hb
      go_wp2_with fail
      go_ret
      exact ⟨by rw [E.out]; rfl, rfl⟩
    | false =>
      have G : Hid (∀ i, i < k + 1 → l.getD i false = false) := fun i hi => by
        by_cases e : i = k
        · subst e; exact hb
        · exact F.out i (by omega)
      clear hb
      go_wp2_with fail
      go_roundw
      case rel => exact ⟨k + 1, by rw [N.out]; omega, by go_num, G.out, rfl⟩
      simp [intOf]; omega
  · obtain rfl : n = k := by omega
    have E : Hid (idxT l = -1) := by show _ = _; unfold idxT; rw [firstT_none (by rw [N.out]; exact F.out)]
    go_wp2_with fail
    go_ret
    exact ⟨by rw [E.out]; rfl, rfl⟩

/-- Numbers in memory, of whatever kind the block is. -/
def InA (w : World) (l : List Int) (a : Option Addr) : Prop := l ≠ [] → ∃ g o, a = some ⟨g, o, none⟩ ∧ ∀ i, i < l.length → w.cell? ⟨g, o + i, none⟩ = some (.int .i64 (l.getD i 0))
theorem InB.a {w : World} {l : List Int} {a : Option Addr} (h : InB w l a) : InA w l a := fun hne => by obtain ⟨g, o, e, _, k⟩ := h hne; exact ⟨g, o, e, k⟩
theorem InA.below {w w' : World} {l : List Int} {a : Option Addr} (h : InA w l a) (hb : Below w.heap.size w w') : InA w' l a := fun hne => by
  obtain ⟨g, o, e, k⟩ := h hne
  exact ⟨g, o, e, fun i hi => cell_later hb (Nat.le_refl _) (k i hi)⟩
def CoL (w : World) (l : List Int) (v : Int) (v8 : Value) (wr : World) : Prop := ∃ k : Nat, k ≤ l.length ∧ v8 = .int .i64 (k : Int) ∧ (∀ i, i < k → l.getD i 0 ≠ v) ∧ wr = w
theorem getD_mem {l : List Int} {k : Nat} (h : k < l.length) : l.getD k 0 ∈ l := by rw [List.getD_eq_getElem?_getD, List.getElem?_eq_getElem h]; exact List.getElem_mem h
theorem indexI_any {w : World} {l : List Int} {a : Option Addr} {n c : Nat} (v : Int) (h : InA w l a) (hn : l.length = n) (h0 : n ≤ c) (h1 : c ≤ 9223372036854775807) : Calls Tryz.prog 90 #[.slice a n c, .int .i64 v] w fun e w' => (∃ x : Int, e = .returned (.int .i64 x) ∧ (0 ≤ x ↔ v ∈ l)) ∧ w' = w := by
  have H := Lib.hid h; have N := Lib.hid hn
  clear h hn
  go_enter Tryz.func90, Tryz.ntmps90
  go_wp2_with fail
  go_loopw [8] (fun v8 wr => CoL w l v v8 wr) (fun v8 _ => n - (intOf v8).toNat)
  case atStart => exact ⟨0, Nat.zero_le _, rfl, fun i hi => absurd hi (Nat.not_lt_zero _), rfl⟩
  obtain ⟨k, hk, rfl, hf, rfl⟩ := hrel
  have F := Lib.hid hf
  rw [N.out] at hk
  clear hf
  by_cases hlt : k < n
  · obtain ⟨g, o, rfl, dd⟩ := H.out (by intro e; have := N.out; rw [e] at this; simp at this; omega)
    have p0 := dd k (by rw [N.out]; exact hlt)
    clear dd
    have MM := Lib.hid (getD_mem (l := l) (k := k) (by rw [N.out]; exact hlt))
    obtain ⟨b, hb⟩ : ∃ b, l.getD k 0 = b := ⟨_, rfl⟩
    rw [hb] at p0 MM
    by_cases vb : v = b
    · subst vb
      clear hb
      go_wp2_with fail
      go_ret
      exact ⟨⟨k, rfl, ⟨fun _ => MM.out, fun _ => by omega⟩⟩, rfl⟩
    · have G : Hid (∀ i, i < k + 1 → l.getD i 0 ≠ v) := fun i hi => by
        by_cases e : i = k
        · subst e; rw [hb]; exact fun q => vb q.symm
        · exact F.out i (by omega)
      have vb' : (v == b) = false := by simpa using vb
      clear hb vb
      go_wp2_with fail
      go_roundw
      case rel => exact ⟨k + 1, by rw [N.out]; omega, by go_num, G.out, rfl⟩
      simp [intOf]; omega
  · obtain rfl : n = k := by omega
    go_wp2_with fail
    go_ret
    refine ⟨⟨-1, rfl, ⟨fun q => absurd q (by omega), fun q => ?_⟩⟩, rfl⟩
    obtain ⟨i, hi, e⟩ := List.getElem_of_mem q
    exact absurd (by rw [List.getD_eq_getElem?_getD, List.getElem?_eq_getElem hi]; exact e) (F.out i (by rw [N.out] at hi; exact hi))
theorem contains_any {w : World} {l : List Int} {a : Option Addr} {n c : Nat} (v : Int) (h : InA w l a) (hn : l.length = n) (h0 : n ≤ c) (h1 : c ≤ 9223372036854775807) : Calls Tryz.prog 56 #[.slice a n c, .int .i64 v] w fun e w' => e = .returned (.bool (l.contains v)) ∧ w' = w := by
  have C := Lib.hid (indexI_any v h hn h0 h1)
  clear h hn
  go_enter Tryz.func56, Tryz.ntmps56
  go_wp2_with fail
  refine C.out.mono ?_
  rintro e w2 ⟨⟨x, rfl, hx⟩, rfl⟩
  have X : Hid (l.contains v = decide (0 ≤ x)) := by show _ = _; rw [Bool.eq_iff_iff, decide_eq_true_eq, hx]; simp
  clear hx
  go_wp2_with fail
  go_ret
  exact ⟨by rw [X.out]; rfl, rfl⟩
end Go.Proofs.YteiohgiecpibhaaGreat
