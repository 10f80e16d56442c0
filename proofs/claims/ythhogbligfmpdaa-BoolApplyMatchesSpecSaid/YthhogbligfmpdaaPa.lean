/- Plain facts on decision diagrams: lists of nodes, the table of a node, that equal tables mean equal nodes. No program in sight. -/
set_option linter.unusedVariables false
set_option linter.unusedSimpArgs false
namespace Go.Proofs.Ythhogbligfmpdaa.Bd

abbrev Nd := Int × Int × Int

def nd (ns : List Nd) (r : Int) : Nd := ns.getD r.toNat (0, 0, 0)
def lo (ns : List Nd) (r : Int) : Int := (nd ns r).2.1
def hi (ns : List Nd) (r : Int) : Int := (nd ns r).2.2
def top (ns : List Nd) (r : Int) : Int := if r < 0 then 16 else (nd ns r).1

/-- A reference into the nodes: -2, -1, or a place. -/
def Ref (ns : List Nd) (r : Int) : Prop := -2 ≤ r ∧ r < (ns.length : Int)

/-- Each node tests a variable, names earlier ones, with greater variables. -/
def Ord (ns : List Nd) : Prop := ∀ i : Nat, i < ns.length →
  0 ≤ (nd ns i).1 ∧ (nd ns i).1 < 16 ∧ (-2 ≤ lo ns i ∧ lo ns i < i) ∧ (-2 ≤ hi ns i ∧ hi ns i < i) ∧ (nd ns i).1 < top ns (lo ns i) ∧ (nd ns i).1 < top ns (hi ns i)

/-- No node is idle, none is there twice. -/
structure Good (ns : List Nd) : Prop where
  ord : Ord ns
  red : ∀ i : Nat, i < ns.length → lo ns i ≠ hi ns i
  nodup : ns.Nodup

/-- The parts of a node for a variable. -/
def spl0 (ns : List Nd) (r v : Int) : Int := if top ns r = v then lo ns r else r
def spl1 (ns : List Nd) (r v : Int) : Int := if top ns r = v then hi ns r else r

/-- The table of a reference over the last n variables, the first of them the slowest. -/
def tb (ns : List Nd) : Nat → Int → List Bool
  | 0, r => [r == -2]
  | n + 1, r => tb ns n (spl0 ns r (15 - n)) ++ tb ns n (spl1 ns r (15 - n))

theorem tb_length (ns : List Nd) (n : Nat) (r : Int) : (tb ns n r).length = 2 ^ n := by
  induction n generalizing r with
  | zero => rfl
  | succ n ih => simp [tb, ih, Nat.pow_succ]; omega

theorem nd_append {ns ms : List Nd} {r : Int} (h : r < (ns.length : Int)) : nd (ns ++ ms) r = nd ns r ∨ r < 0 := by
  by_cases h0 : r < 0
  · exact Or.inr h0
  · left
    have : r.toNat < ns.length := by omega
    simp [nd, List.getD_eq_getElem?_getD, List.getElem?_append_left this]

theorem nd_app {ns ms : List Nd} {r : Int} (h0 : 0 ≤ r) (h : r < (ns.length : Int)) : nd (ns ++ ms) r = nd ns r := by
  rcases nd_append (ms := ms) h with h | h
  · exact h
  · omega

theorem top_app {ns ms : List Nd} {r : Int} (h : Ref ns r) : top (ns ++ ms) r = top ns r := by
  unfold top
  by_cases h0 : r < 0
  · simp [h0]
  · rw [if_neg h0, if_neg h0, nd_app (by omega) h.2]

theorem top_neg {ns : List Nd} {r : Int} (h : r < 0) : top ns r = 16 := by simp [top, h]
theorem top_nat {ns : List Nd} (i : Nat) : top ns i = (nd ns i).1 := by simp only [top]; rw [if_neg (by omega)]

theorem Ref.app {ns : List Nd} {r : Int} (h : Ref ns r) (ms : List Nd) : Ref (ns ++ ms) r := by
  unfold Ref at *; simp; omega

theorem Ord.top_lt {ns : List Nd} (h : Ord ns) {r : Int} (hr : Ref ns r) : 0 ≤ top ns r ∧ top ns r ≤ 16 ∧ (0 ≤ r → top ns r < 16) := by
  by_cases h0 : r < 0
  · rw [top_neg h0]; omega
  · obtain ⟨i, rfl⟩ := Int.eq_ofNat_of_zero_le (by omega : 0 ≤ r)
    have := h i (by have := hr.2; omega)
    rw [top_nat]; omega

theorem Ord.ref_lo {ns : List Nd} (h : Ord ns) {r : Int} (hr : Ref ns r) (h0 : 0 ≤ r) : Ref ns (lo ns r) ∧ lo ns r < r ∧ top ns r < top ns (lo ns r) := by
  obtain ⟨i, rfl⟩ := Int.eq_ofNat_of_zero_le h0
  have h1 := hr.2
  have h2 := h i (by omega)
  rw [top_nat]
  refine ⟨⟨h2.2.2.1.1, by omega⟩, by omega, by omega⟩

theorem Ord.ref_hi {ns : List Nd} (h : Ord ns) {r : Int} (hr : Ref ns r) (h0 : 0 ≤ r) : Ref ns (hi ns r) ∧ hi ns r < r ∧ top ns r < top ns (hi ns r) := by
  obtain ⟨i, rfl⟩ := Int.eq_ofNat_of_zero_le h0
  have h1 := hr.2
  have h2 := h i (by omega)
  rw [top_nat]
  refine ⟨⟨h2.2.2.2.1.1, by omega⟩, by omega, by omega⟩

/-- The parts for a variable that is at most the node's: references again, with greater variables. -/
theorem Ord.spl0 {ns : List Nd} (h : Ord ns) {r v : Int} (hr : Ref ns r) (hv : v ≤ top ns r) (h16 : v < 16) : Ref ns (spl0 ns r v) ∧ v + 1 ≤ top ns (Bd.spl0 ns r v) := by
  unfold Bd.spl0
  by_cases e : top ns r = v
  · rw [if_pos e]
    have h0 : 0 ≤ r := by
      by_cases h0 : r < 0
      · rw [top_neg h0] at e; omega
      · omega
    have := h.ref_lo hr h0
    exact ⟨this.1, by omega⟩
  · rw [if_neg e]; exact ⟨hr, by omega⟩

theorem Ord.spl1 {ns : List Nd} (h : Ord ns) {r v : Int} (hr : Ref ns r) (hv : v ≤ top ns r) (h16 : v < 16) : Ref ns (spl1 ns r v) ∧ v + 1 ≤ top ns (Bd.spl1 ns r v) := by
  unfold Bd.spl1
  by_cases e : top ns r = v
  · rw [if_pos e]
    have h0 : 0 ≤ r := by
      by_cases h0 : r < 0
      · rw [top_neg h0] at e; omega
      · omega
    have := h.ref_hi hr h0
    exact ⟨this.1, by omega⟩
  · rw [if_neg e]; exact ⟨hr, by omega⟩

theorem spl0_app {ns ms : List Nd} {r v : Int} (h : Ref ns r) (h16 : v < 16) : spl0 (ns ++ ms) r v = spl0 ns r v := by
  unfold spl0; rw [top_app h]
  by_cases e : top ns r = v
  · have h0 : 0 ≤ r := by
      by_cases h0 : r < 0
      · rw [top_neg h0] at e; omega
      · omega
    rw [if_pos e, if_pos e]; unfold lo; rw [nd_app h0 h.2]
  · rw [if_neg e, if_neg e]

theorem spl1_app {ns ms : List Nd} {r v : Int} (h : Ref ns r) (h16 : v < 16) : spl1 (ns ++ ms) r v = spl1 ns r v := by
  unfold spl1; rw [top_app h]
  by_cases e : top ns r = v
  · have h0 : 0 ≤ r := by
      by_cases h0 : r < 0
      · rw [top_neg h0] at e; omega
      · omega
    rw [if_pos e, if_pos e]; unfold hi; rw [nd_app h0 h.2]
  · rw [if_neg e, if_neg e]

/-- New nodes change no table. -/
theorem tb_app {ns ms : List Nd} (h : Ord ns) (n : Nat) {r : Int} (hr : Ref ns r) (hn : (16 : Int) - n ≤ top ns r) : tb (ns ++ ms) n r = tb ns n r := by
  induction n generalizing r with
  | zero => rfl
  | succ n ih =>
    have h0 := h.spl0 hr (v := 15 - n) (by omega) (by omega)
    have h1 := h.spl1 hr (v := 15 - n) (by omega) (by omega)
    simp only [tb]
    rw [spl0_app hr (by omega), spl1_app hr (by omega), ih h0.1 (by omega), ih h1.1 (by omega)]

/-- EQUAL TABLES: ONE NODE. -/
theorem Good.inj {ns : List Nd} (h : Good ns) (n : Nat) : ∀ {r s : Int}, Ref ns r → Ref ns s → (16 : Int) - n ≤ top ns r → (16 : Int) - n ≤ top ns s → tb ns n r = tb ns n s → r = s := by
  induction n with
  | zero =>
    intro r s hr hs hr1 hs1 he
    have a := (h.ord.top_lt hr).2.2
    have b := (h.ord.top_lt hs).2.2
    have ha : r < 0 := by
      by_cases h0 : 0 ≤ r
      · have := a h0; omega
      · omega
    have hb : s < 0 := by
      by_cases h0 : 0 ≤ s
      · have := b h0; omega
      · omega
    have := hr.1; have := hs.1
    simp only [tb, List.cons.injEq, and_true] at he
    rw [Bool.eq_iff_iff, beq_iff_eq, beq_iff_eq] at he
    by_cases e : r = -2
    · have := he.1 e
      omega
    · have : s ≠ -2 := fun x => e (he.2 x)
      omega
  | succ n ih =>
    intro r s hr hs hr1 hs1 he
    have r0 := h.ord.spl0 hr (v := 15 - n) (by omega) (by omega)
    have r1 := h.ord.spl1 hr (v := 15 - n) (by omega) (by omega)
    have s0 := h.ord.spl0 hs (v := 15 - n) (by omega) (by omega)
    have s1 := h.ord.spl1 hs (v := 15 - n) (by omega) (by omega)
    simp only [tb] at he
    have hl := List.append_inj he (by simp [tb_length])
    have e0 := ih r0.1 s0.1 (by omega) (by omega) hl.1
    have e1 := ih r1.1 s1.1 (by omega) (by omega) hl.2
    by_cases tr : top ns r = 15 - n
    · have hr0 : 0 ≤ r := by
        by_cases h0 : r < 0
        · rw [top_neg h0] at tr; omega
        · omega
      obtain ⟨i, rfl⟩ := Int.eq_ofNat_of_zero_le hr0
      have hi := hr.2
      simp only [spl0, spl1, if_pos tr] at e0 e1
      by_cases ts : top ns s = 15 - n
      · have hs0 : 0 ≤ s := by
          by_cases h0 : s < 0
          · rw [top_neg h0] at ts; omega
          · omega
        obtain ⟨j, rfl⟩ := Int.eq_ofNat_of_zero_le hs0
        have hj := hs.2
        simp only [if_pos ts] at e0 e1
        have hnd : nd ns i = nd ns j := by
          rw [top_nat] at tr ts
          apply Prod.ext
          · rw [tr, ts]
          · apply Prod.ext
            · exact e0
            · exact e1
        have hi' : i < ns.length := by omega
        have hj' : j < ns.length := by omega
        simp only [nd, Int.toNat_natCast, List.getD_eq_getElem?_getD, List.getElem?_eq_getElem hi', List.getElem?_eq_getElem hj', Option.getD_some] at hnd
        have hp := List.pairwise_iff_getElem.1 h.nodup
        rcases Nat.lt_trichotomy i j with hlt | heq | hgt
        · exact absurd hnd (hp i j hi' hj' hlt)
        · omega
        · exact absurd hnd.symm (hp j i hj' hi' hgt)
      · simp only [if_neg ts] at e0 e1
        exact absurd (e0.trans e1.symm) (h.red i (by omega))
    · simp only [spl0, spl1, if_neg tr] at e0 e1
      by_cases ts : top ns s = 15 - n
      · have hs0 : 0 ≤ s := by
          by_cases h0 : s < 0
          · rw [top_neg h0] at ts; omega
          · omega
        obtain ⟨j, rfl⟩ := Int.eq_ofNat_of_zero_le hs0
        have hj := hs.2
        simp only [if_pos ts] at e0 e1
        exact absurd (e0.symm.trans e1) (h.red j (by omega))
      · simpa only [if_neg ts] using e0

end Go.Proofs.Ythhogbligfmpdaa.Bd
