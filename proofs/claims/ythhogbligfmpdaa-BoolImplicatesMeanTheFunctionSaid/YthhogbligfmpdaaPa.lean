/- Plain facts on decision diagrams: lists of nodes, the table of a node, that equal tables mean equal nodes. No program in sight. -/
set_option linter.unusedVariables false
set_option linter.unusedSimpArgs false
namespace Go.Proofs.Ythhogbligfmpdaa.Bd

abbrev Nd := Int × Int × Int

def nd (ns : List Nd) (r : Int) : Nd := ns.getD r.toNat (0, 0, 0)
def lo (ns : List Nd) (r : Int) : Int := (nd ns r).2.1
def hi (ns : List Nd) (r : Int) : Int := (nd ns r).2.2
def top (ns : List Nd) (r : Int) : Int := if r < 0 then 16 else (nd ns r).1

/-- A reference into the nodes: -2, -1, or a place. -/
def Ref (ns : List Nd) (r : Int) : Prop := -2 ≤ r ∧ r < (ns.length : Int)

/-- Each node tests a variable, names earlier ones, with greater variables. -/
def Ord (ns : List Nd) : Prop := ∀ i : Nat, i < ns.length →
  0 ≤ (nd ns i).1 ∧ (nd ns i).1 < 16 ∧ (-2 ≤ lo ns i ∧ lo ns i < i) ∧ (-2 ≤ hi ns i ∧ hi ns i < i) ∧ (nd ns i).1 < top ns (lo ns i) ∧ (nd ns i).1 < top ns (hi ns i)

/-- No node is idle, none is there twice. -/
structure Good (ns : List Nd) : Prop where
  ord : Ord ns
  red : ∀ i : Nat, i < ns.length → lo ns i ≠ hi ns i
  nodup : ns.Nodup

/-- The parts of a node for a variable. -/
def spl0 (ns : List Nd) (r v : Int) : Int := if top ns r = v then lo ns r else r
def spl1 (ns : List Nd) (r v : Int) : Int := if top ns r = v then hi ns r else r

/-- The table of a reference over the last n variables, the first of them the slowest. -/
def tb (ns : List Nd) : Nat → Int → List Bool
  | 0, r => [r == -2]
  | n + 1, r => tb ns n (spl0 ns r (15 - n)) ++ tb ns n (spl1 ns r (15 - n))

theorem tb_length (ns : List Nd) (n : Nat) (r : Int) : (tb ns n r).length = 2 ^ n := by
  induction n generalizing r with
  | zero => rfl
  | succ n ih => simp [tb, ih, Nat.pow_succ]; omega

theorem nd_append {ns ms : List Nd} {r : Int} (h : r < (ns.length : Int)) : nd (ns ++ ms) r = nd ns r ∨ r < 0 := by
  by_cases h0 : r < 0
  · exact Or.inr h0
  · left
    have : r.toNat < ns.length := by omega
    simp [nd, List.getD_eq_getElem?_getD, List.getElem?_append_left this]

theorem nd_app {ns ms : List Nd} {r : Int} (h0 : 0 ≤ r) (h : r < (ns.length : Int)) : nd (ns ++ ms) r = nd ns r := by
  rcases nd_append (ms := ms) h with h | h
  · exact h
  · omega

theorem top_app {ns ms : List Nd} {r : Int} (h : Ref ns r) : top (ns ++ ms) r = top ns r := by
  unfold top
  by_cases h0 : r < 0
  · simp [h0]
  · rw [if_neg h0, if_neg h0, nd_app (by omega) h.2]

theorem top_neg {ns : List Nd} {r : Int} (h : r < 0) : top ns r = 16 := by simp [top, h]
theorem top_nat {ns : List Nd} (i : Nat) : top ns i = (nd ns i).1 := by simp only [top]; rw [if_neg (by omega)]

theorem Ref.app {ns : List Nd} {r : Int} (h : Ref ns r) (ms : List Nd) : Ref (ns ++ ms) r := by
  unfold Ref at *; simp; omega

theorem Ord.top_lt {ns : List Nd} (h : Ord ns) {r : Int} (hr : Ref ns r) : 0 ≤ top ns r ∧ top ns r ≤ 16 ∧ (0 ≤ r → top ns r < 16) := by
  by_cases h0 : r < 0
  · rw [top_neg h0]; omega
  · obtain ⟨i, rfl⟩ := Int.eq_ofNat_of_zero_le (by omega : 0 ≤ r)
    have := h i (by have := hr.2; omega)
    rw [top_nat]; omega

theorem Ord.ref_lo {ns : List Nd} (h : Ord ns) {r : Int} (hr : Ref ns r) (h0 : 0 ≤ r) : Ref ns (lo ns r) ∧ lo ns r < r ∧ top ns r < top ns (lo ns r) := by
  obtain ⟨i, rfl⟩ := Int.eq_ofNat_of_zero_le h0
  have h1 := hr.2
  have h2 := h i (by omega)
  rw [top_nat]
  refine ⟨⟨h2.2.2.1.1, by omega⟩, by omega, by omega⟩

theorem Ord.ref_hi {ns : List Nd} (h : Ord ns) {r : Int} (hr : Ref ns r) (h0 : 0 ≤ r) : Ref ns (hi ns r) ∧ hi ns r < r ∧ top ns r < top ns (hi ns r) := by
  obtain ⟨i, rfl⟩ := Int.eq_ofNat_of_zero_le h0
  have h1 := hr.2
  have h2 := h i (by omega)
  rw [top_nat]
  refine ⟨⟨h2.2.2.2.1.1, by omega⟩, by omega, by omega⟩

/-- The parts for a variable that is at most the node's: references again, with greater variables. -/
theorem Ord.spl0 {ns : List Nd} (h : Ord ns) {r v : Int} (hr : Ref ns r) (hv : v ≤ top ns r) (h16 : v < 16) : Ref ns (spl0 ns r v) ∧ v + 1 ≤ top ns (Bd.spl0 ns r v) := by
  unfold Bd.spl0
  by_cases e : top ns r = v
  · rw [if_pos e]
    have h0 : 0 ≤ r := by
      by_cases h0 : r < 0
      · rw [top_neg h0] at e; omega
      · omega
    have := h.ref_lo hr h0
    exact ⟨this.1, by omega⟩
  · rw [if_neg e]; exact ⟨hr, by omega⟩

theorem Ord.spl1 {ns : List Nd} (h : Ord ns) {r v : Int} (hr : Ref ns r) (hv : v ≤ top ns r) (h16 : v < 16) : Ref ns (spl1 ns r v) ∧ v + 1 ≤ top ns (Bd.spl1 ns r v) := by
  unfold Bd.spl1
  by_cases e : top ns r = v
  · rw [if_pos e]
    have h0 : 0 ≤ r := by
      by_cases h0 : r < 0
      · rw [top_neg h0] at e; omega
      · omega
    have := h.ref_hi hr h0
    exact ⟨this.1, by omega⟩
  · rw [if_neg e]; exact ⟨hr, by omega⟩

theorem spl0_app {ns ms : List Nd} {r v : Int} (h : Ref ns r) (h16 : v < 16) : spl0 (ns ++ ms) r v = spl0 ns r v := by
  unfold spl0; rw [top_app h]
  by_cases e : top ns r = v
  · have h0 : 0 ≤ r := by
      by_cases h0 : r < 0
      · rw [top_neg h0] at e; omega
      · omega
    rw [if_pos e, if_pos e]; unfold lo; rw [nd_app h0 h.2]
  · rw [if_neg e, if_neg e]

theorem spl1_app {ns ms : List Nd} {r v : Int} (h : Ref ns r) (h16 : v < 16) : spl1 (ns ++ ms) r v = spl1 ns r v := by
  unfold spl1; rw [top_app h]
  by_cases e : top ns r = v
  · have h0 : 0 ≤ r := by
      by_cases h0 : r < 0
      · rw [top_neg h0] at e; omega
      · omega
    rw [if_pos e, if_pos e]; unfold hi; rw [nd_app h0 h.2]
  · rw [if_neg e, if_neg e]

/-- New nodes change no table. -/
theorem tb_app {ns ms : List Nd} (h : Ord ns) (n : Nat) {r : Int} (hr : Ref ns r) (hn : (16 : Int) - n ≤ top ns r) : tb (ns ++ ms) n r = tb ns n r := by
  induction n generalizing r with
  | zero => rfl
  | succ n ih =>
    have h0 := h.spl0 hr (v := 15 - n) (by omega) (by omega)
    have h1 := h.spl1 hr (v := 15 - n) (by omega) (by omega)
    simp only [tb]
    rw [spl0_app hr (by omega), spl1_app hr (by omega), ih h0.1 (by omega), ih h1.1 (by omega)]

/-- EQUAL TABLES: ONE NODE. -/
theorem Good.inj {ns : List Nd} (h : Good ns) (n : Nat) : ∀ {r s : Int}, Ref ns r → Ref ns s → (16 : Int) - n ≤ top ns r → (16 : Int) - n ≤ top ns s → tb ns n r = tb ns n s → r = s := by
  induction n with
  | zero =>
    intro r s hr hs hr1 hs1 he
    have a := (h.ord.top_lt hr).2.2
    have b := (h.ord.top_lt hs).2.2
    have ha : r < 0 := by
      by_cases h0 : 0 ≤ r
      · have := a h0; omega
      · omega
    have hb : s < 0 := by
      by_cases h0 : 0 ≤ s
      · have := b h0; omega
      · omega
    have := hr.1; have := hs.1
    simp only [tb, List.cons.injEq, and_true] at he
    rw [Bool.eq_iff_iff, beq_iff_eq, beq_iff_eq] at he
    by_cases e : r = -2
    · have := he.1 e
      omega
    · have : s ≠ -2 := fun x => e (he.2 x)
      omega
  | succ n ih =>
    intro r s hr hs hr1 hs1 he
    have r0 := h.ord.spl0 hr (v := 15 - n) (by omega) (by omega)
    have r1 := h.ord.spl1 hr (v := 15 - n) (by omega) (by omega)
    have s0 := h.ord.spl0 hs (v := 15 - n) (by omega) (by omega)
    have s1 := h.ord.spl1 hs (v := 15 - n) (by omega) (by omega)
    simp only [tb] at he
    have hl := List.append_inj he (by simp [tb_length])
    have e0 := ih r0.1 s0.1 (by omega) (by omega) hl.1
    have e1 := ih r1.1 s1.1 (by omega) (by omega) hl.2
    by_cases tr : top ns r = 15 - n
    · have hr0 : 0 ≤ r := by
        by_cases h0 : r < 0
        · rw [top_neg h0] at tr; omega
        · omega
      obtain ⟨i, rfl⟩ := Int.eq_ofNat_of_zero_le hr0
      have hi := hr.2
      simp only [spl0, spl1, if_pos tr] at e0 e1
      by_cases ts : top ns s = 15 - n
      · have hs0 : 0 ≤ s := by
          by_cases h0 : s < 0
          · rw [top_neg h0] at ts; omega
          · omega
        obtain ⟨j, rfl⟩ := Int.eq_ofNat_of_zero_le hs0
        have hj := hs.2
        simp only [if_pos ts] at e0 e1
        have hnd : nd ns i = nd ns j := by
          rw [top_nat] at tr ts
          apply Prod.ext
          · rw [tr, ts]
          · apply Prod.ext
            · exact e0
            · exact e1
        have hi' : i < ns.length := by omega
        have hj' : j < ns.length := by omega
        simp only [nd, Int.toNat_natCast, List.getD_eq_getElem?_getD, List.getElem?_eq_getElem hi', List.getElem?_eq_getElem hj', Option.getD_some] at hnd
        have hp := List.pairwise_iff_getElem.1 h.nodup
        rcases Nat.lt_trichotomy i j with hlt | heq | hgt
        · exact absurd hnd (hp i j hi' hj' hlt)
        · omega
        · exact absurd hnd.symm (hp j i hj' hi' hgt)
      · simp only [if_neg ts] at e0 e1
        exact absurd (e0.trans e1.symm) (h.red i (by omega))
    · simp only [spl0, spl1, if_neg tr] at e0 e1
      by_cases ts : top ns s = 15 - n
      · have hs0 : 0 ≤ s := by
          by_cases h0 : s < 0
          · rw [top_neg h0] at ts; omega
          · omega
        obtain ⟨j, rfl⟩ := Int.eq_ofNat_of_zero_le hs0
        have hj := hs.2
        simp only [if_pos ts] at e0 e1
        exact absurd (e0.symm.trans e1) (h.red j (by omega))
      · simpa only [if_neg ts] using e0

end Go.Proofs.Ythhogbligfmpdaa.Bd

/- Plain facts on decision diagrams: a node that is found or added, and the choice of two by a third. No program in sight. -/
namespace Go.Proofs.Ythhogbligfmpdaa.Bd

def nodeS (ns : List Nd) (v l h : Int) : List Nd × Int :=
  if l = h then (ns, l) else
  match ns.findIdx? (· == (v, l, h)) with
  | some i => (ns, (i : Int))
  | none => (ns ++ [(v, l, h)], (ns.length : Int))

theorem nd_of_lt {ns : List Nd} {i : Nat} (h : i < ns.length) : nd ns i = ns[i] := by
  simp [nd, List.getD_eq_getElem?_getD, h]

theorem tb_skip {ns : List Nd} {n : Nat} {r : Int} (h : (15 : Int) - n < top ns r) : tb ns (n + 1) r = tb ns n r ++ tb ns n r := by
  simp only [tb, spl0, spl1]
  rw [if_neg (by omega), if_neg (by omega)]

theorem tb_node {ns : List Nd} {n : Nat} {r : Int} (h : (15 : Int) - n = top ns r) : tb ns (n + 1) r = tb ns n (lo ns r) ++ tb ns n (hi ns r) := by
  simp only [tb, spl0, spl1]
  rw [if_pos (by omega), if_pos (by omega)]

/-- What a node that is asked for comes to. -/
structure NodeRes (ns : List Nd) (v l h : Int) (ns' : List Nd) (r : Int) : Prop where
  ext : ∃ ms, ns' = ns ++ ms ∧ ms.length ≤ 1
  good : Good ns'
  ref : Ref ns' r
  top : v ≤ top ns' r
  tab : ∀ n : Nat, (15 : Int) - n = v → tb ns' (n + 1) r = tb ns n l ++ tb ns n h

theorem nd_last (ns : List Nd) (x : Nd) : nd (ns ++ [x]) ns.length = x := by
  simp [nd, List.getD_eq_getElem?_getD]

theorem Good.push {ns : List Nd} (g : Good ns) {v l h : Int} (hv : 0 ≤ v) (h16 : v < 16) (hl : Ref ns l) (hh : Ref ns h) (tl : v < top ns l) (th : v < top ns h) (hne : l ≠ h) (hnew : (v, l, h) ∉ ns) : Good (ns ++ [(v, l, h)]) := by
  refine ⟨?_, ?_, ?_⟩
  · intro i hi
    simp only [List.length_append, List.length_cons, List.length_nil] at hi
    by_cases hlt : i < ns.length
    · have h1 := g.ord i hlt
      have e1 : nd (ns ++ [(v, l, h)]) i = nd ns i := nd_app (by omega) (by omega)
      have e2 : lo (ns ++ [(v, l, h)]) i = lo ns i := by unfold lo; rw [e1]
      have e3 : Bd.hi (ns ++ [(v, l, h)]) i = Bd.hi ns i := by unfold Bd.hi; rw [e1]
      rw [e1, e2, e3, top_app ⟨h1.2.2.1.1, by omega⟩, top_app ⟨h1.2.2.2.1.1, by omega⟩]
      exact h1
    · have hi' : i = ns.length := by omega
      subst hi'
      have e1 := nd_last ns (v, l, h)
      have e2 : lo (ns ++ [(v, l, h)]) ns.length = l := by unfold lo; rw [e1]
      have e3 : Bd.hi (ns ++ [(v, l, h)]) ns.length = h := by unfold Bd.hi; rw [e1]
      rw [e1, e2, e3, top_app hl, top_app hh]
      exact ⟨hv, h16, hl, hh, tl, th⟩
  · intro i hi
    simp only [List.length_append, List.length_cons, List.length_nil] at hi
    by_cases hlt : i < ns.length
    · have h1 := g.red i hlt
      have e1 : nd (ns ++ [(v, l, h)]) i = nd ns i := nd_app (by omega) (by omega)
      unfold lo Bd.hi at *
      rw [e1]; exact h1
    · have hi' : i = ns.length := by omega
      subst hi'
      unfold lo Bd.hi
      rw [nd_last]; exact hne
  · rw [List.nodup_append]
    refine ⟨g.nodup, by simp, ?_⟩
    intro a ha b hb
    simp at hb; subst hb
    exact fun e => hnew (e ▸ ha)

theorem nodeS_spec {ns : List Nd} (g : Good ns) {v l h : Int} (hv : 0 ≤ v) (h16 : v < 16) (hl : Ref ns l) (hh : Ref ns h) (tl : v < top ns l) (th : v < top ns h) :
    NodeRes ns v l h (nodeS ns v l h).1 (nodeS ns v l h).2 := by
  unfold nodeS
  by_cases e : l = h
  · rw [if_pos e]
    subst e
    show NodeRes ns v l l ns l
    exact ⟨⟨[], by simp, by simp⟩, g, hl, by show v ≤ top ns l; omega, fun n hn => tb_skip (by omega)⟩
  · rw [if_neg e]
    cases hf : ns.findIdx? (· == (v, l, h)) with
    | some i =>
      obtain ⟨hi, h1, _⟩ := List.findIdx?_eq_some_iff_getElem.1 hf
      have h2 : ns[i] = (v, l, h) := by simpa using h1
      have e1 : nd ns i = (v, l, h) := by rw [nd_of_lt hi, h2]
      show NodeRes ns v l h ns i
      refine ⟨⟨[], by simp, by simp⟩, g, ⟨by omega, by omega⟩, ?_, ?_⟩
      · show v ≤ top ns i
        rw [top_nat, e1]; exact Int.le_refl _
      · intro n hn
        show tb ns (n + 1) i = _
        rw [tb_node (by rw [top_nat, e1]; exact hn)]
        unfold lo Bd.hi; rw [e1]
    | none =>
      have hnew : (v, l, h) ∉ ns := by
        intro hm
        have := List.findIdx?_eq_none_iff.1 hf _ hm
        simp at this
      have g' := g.push hv h16 hl hh tl th e hnew
      show NodeRes ns v l h (ns ++ [(v, l, h)]) ns.length
      refine ⟨⟨[(v, l, h)], rfl, by simp⟩, g', ⟨by omega, by simp; omega⟩, ?_, ?_⟩
      · show v ≤ top (ns ++ [(v, l, h)]) ns.length
        rw [top_nat, nd_last]; exact Int.le_refl _
      · intro n hn
        show tb (ns ++ [(v, l, h)]) (n + 1) ns.length = _
        rw [tb_node (by rw [top_nat, nd_last]; exact hn)]
        unfold lo Bd.hi; rw [nd_last]
        rw [tb_app g.ord n hl (by omega), tb_app g.ord n hh (by omega)]

/-- Choice, entry by entry. -/
def it3 : List Bool → List Bool → List Bool → List Bool
  | a :: x, b :: y, c :: z => (if a then b else c) :: it3 x y z
  | _, _, _ => []

theorem it3_append : ∀ (x y z x' y' z' : List Bool), x.length = y.length → x.length = z.length → it3 (x ++ x') (y ++ y') (z ++ z') = it3 x y z ++ it3 x' y' z'
  | [], y, z, x', y', z', h1, h2 => by
    have : y = [] := List.length_eq_zero_iff.1 h1.symm
    have : z = [] := List.length_eq_zero_iff.1 h2.symm
    subst y z; simp [it3]
  | a :: x, y, z, x', y', z', h1, h2 => by
    match y, z, h1, h2 with
    | b :: y, c :: z, h1, h2 =>
      simp only [List.cons_append, it3, List.cons.injEq, true_and]
      exact it3_append x y z x' y' z' (by simpa using h1) (by simpa using h2)

/-- What the choice of b or c by a comes to; m: at most the variables of all three. -/
structure IteRes (ns : List Nd) (a b c : Int) (m : Int) (ns' : List Nd) (r : Int) : Prop where
  ext : ∃ ms, ns' = ns ++ ms ∧ ms.length + 1 ≤ 2 ^ (16 - m).toNat
  good : Good ns'
  ref : Ref ns' r
  top : m ≤ top ns' r
  tab : ∀ n : Nat, (16 : Int) - n ≤ m → tb ns' n r = it3 (tb ns n a) (tb ns n b) (tb ns n c)

theorem pow_mono {a b : Nat} (h : a ≤ b) : 2 ^ a ≤ 2 ^ b := Nat.pow_le_pow_right (by omega) h

theorem IteRes.mono {ns : List Nd} {a b c m m' : Int} {ns' : List Nd} {r : Int} (h : IteRes ns a b c m ns' r) (hm : m' ≤ m) : IteRes ns a b c m' ns' r := by
  obtain ⟨ms, e, hl⟩ := h.ext
  exact ⟨⟨ms, e, Nat.le_trans hl (pow_mono (by omega))⟩, h.good, h.ref, Int.le_trans hm h.top, fun n hn => h.tab n (by omega)⟩

theorem it3_true (x y z : List Bool) (hx : ∀ u ∈ x, u = true) (h1 : x.length = y.length) (h2 : x.length = z.length) : it3 x y z = y := by
  induction x generalizing y z with
  | nil => simp [it3]; exact List.length_eq_zero_iff.1 h1.symm
  | cons a x ih =>
    match y, z, h1, h2 with
    | b :: y, c :: z, h1, h2 =>
      simp only [it3]
      rw [ih y z (fun u hu => hx u (List.mem_cons_of_mem _ hu)) (by simpa using h1) (by simpa using h2), hx a List.mem_cons_self]
      rfl

theorem it3_false (x y z : List Bool) (hx : ∀ u ∈ x, u = false) (h1 : x.length = y.length) (h2 : x.length = z.length) : it3 x y z = z := by
  induction x generalizing y z with
  | nil => simp [it3]; exact List.length_eq_zero_iff.1 h2.symm
  | cons a x ih =>
    match y, z, h1, h2 with
    | b :: y, c :: z, h1, h2 =>
      simp only [it3]
      rw [ih y z (fun u hu => hx u (List.mem_cons_of_mem _ hu)) (by simpa using h1) (by simpa using h2), hx a List.mem_cons_self]
      rfl

theorem it3_same (x y : List Bool) (h1 : x.length = y.length) : it3 x y y = y := by
  induction x generalizing y with
  | nil => simp [it3]; exact List.length_eq_zero_iff.1 h1.symm
  | cons a x ih =>
    match y, h1 with
    | b :: y, h1 => simp only [it3, ite_self, ih y (by simpa using h1)]

theorem it3_id (x y z : List Bool) (hy : ∀ u ∈ y, u = true) (hz : ∀ u ∈ z, u = false) (h1 : x.length = y.length) (h2 : x.length = z.length) : it3 x y z = x := by
  induction x generalizing y z with
  | nil => simp [it3]
  | cons a x ih =>
    match y, z, h1, h2 with
    | b :: y, c :: z, h1, h2 =>
      simp only [it3]
      rw [ih y z (fun u hu => hy u (List.mem_cons_of_mem _ hu)) (fun u hu => hz u (List.mem_cons_of_mem _ hu)) (by simpa using h1) (by simpa using h2), hy b List.mem_cons_self, hz c List.mem_cons_self]
      cases a <;> rfl

theorem tb_const {ns : List Nd} (n : Nat) (hn : n ≤ 16) {r : Int} (hr : r < 0) : tb ns n r = List.replicate (2 ^ n) (r == -2) := by
  induction n with
  | zero => rfl
  | succ n ih => rw [tb_skip (by rw [top_neg hr]; omega), ih (by omega)]; simp [Nat.pow_succ, Nat.mul_two]

theorem tb_const' {ns : List Nd} (n : Nat) {r : Int} (hr : r < 0) : ∀ u ∈ tb ns n r, u = (r == -2) := by
  induction n with
  | zero => simp [tb]
  | succ n ih => rw [tb_skip (by rw [top_neg hr]; omega)]; intro u hu; rcases List.mem_append.1 hu with h | h <;> exact ih u h

theorem one_le_pow (k : Nat) : 0 + 1 ≤ 2 ^ k := Nat.one_le_two_pow

theorem ite_b {ns : List Nd} (g : Good ns) {a b c m : Int} (hb : Ref ns b) (mb : m ≤ top ns b) (h : a = -2 ∨ b = c) : IteRes ns a b c m ns b := by
  refine ⟨⟨[], by simp, one_le_pow _⟩, g, hb, mb, fun n _ => ?_⟩
  rcases h with h | h
  · subst h; rw [it3_true]
    · intro u hu; rw [tb_const' n (by omega) u hu]; rfl
    · simp [tb_length]
    · simp [tb_length]
  · subst h; rw [it3_same]; simp [tb_length]

theorem ite_c {ns : List Nd} (g : Good ns) {a b c m : Int} (hc : Ref ns c) (mc : m ≤ top ns c) (h : a = -1) : IteRes ns a b c m ns c := by
  refine ⟨⟨[], by simp, one_le_pow _⟩, g, hc, mc, fun n _ => ?_⟩
  subst h; rw [it3_false]
  · intro u hu; rw [tb_const' n (by omega) u hu]; rfl
  · simp [tb_length]
  · simp [tb_length]

theorem ite_a {ns : List Nd} (g : Good ns) {a b c m : Int} (ha : Ref ns a) (ma : m ≤ top ns a) (h : b = -2 ∧ c = -1) : IteRes ns a b c m ns a := by
  refine ⟨⟨[], by simp, one_le_pow _⟩, g, ha, ma, fun n _ => ?_⟩
  obtain ⟨rfl, rfl⟩ := h; rw [it3_id]
  · intro u hu; rw [tb_const' n (by omega) u hu]; rfl
  · intro u hu; rw [tb_const' n (by omega) u hu]; rfl
  · simp [tb_length]
  · simp [tb_length]

theorem ite_step {ns ns1 ns2 : List Nd} (g : Good ns) {a b c v low high : Int} (ha : Ref ns a) (hb : Ref ns b) (hc : Ref ns c) (hv : 0 ≤ v) (h16 : v < 16)
    (ta : v ≤ top ns a) (tb' : v ≤ top ns b) (tc : v ≤ top ns c)
    (h0 : IteRes ns (spl0 ns a v) (spl0 ns b v) (spl0 ns c v) (v + 1) ns1 low)
    (h1 : IteRes ns1 (spl1 ns a v) (spl1 ns b v) (spl1 ns c v) (v + 1) ns2 high) :
    IteRes ns a b c v (nodeS ns2 v low high).1 (nodeS ns2 v low high).2 := by
  obtain ⟨ms1, rfl, l1⟩ := h0.ext
  obtain ⟨ms2, rfl, l2⟩ := h1.ext
  have hlow : Ref (ns ++ ms1 ++ ms2) low := h0.ref.app _
  have tlow : v < top (ns ++ ms1 ++ ms2) low := by rw [top_app h0.ref]; have := h0.top; omega
  have H := nodeS_spec h1.good hv h16 hlow h1.ref tlow (by have := h1.top; omega)
  obtain ⟨ms3, e3, l3⟩ := H.ext
  refine ⟨⟨ms1 ++ ms2 ++ ms3, by rw [e3]; simp, ?_⟩, H.good, H.ref, H.top, ?_⟩
  · have e : (16 - v).toNat = (16 - (v + 1)).toNat + 1 := by omega
    rw [e, Nat.pow_succ]
    simp only [List.length_append]; omega
  · obtain ⟨k, hk⟩ : ∃ k : Nat, (15 : Int) - k = v := ⟨(15 - v).toNat, by omega⟩
    have base : tb (nodeS (ns ++ ms1 ++ ms2) v low high).1 (k + 1) (nodeS (ns ++ ms1 ++ ms2) v low high).2 = it3 (tb ns (k + 1) a) (tb ns (k + 1) b) (tb ns (k + 1) c) := by
      rw [H.tab k hk, tb_app h0.good.ord k h0.ref (by have := h0.top; omega), h0.tab k (by omega), h1.tab k (by omega)]
      have sa := g.ord.spl1 ha ta h16
      have sb := g.ord.spl1 hb tb' h16
      have sc := g.ord.spl1 hc tc h16
      rw [tb_app g.ord k sa.1 (by omega), tb_app g.ord k sb.1 (by omega), tb_app g.ord k sc.1 (by omega)]
      rw [← it3_append _ _ _ _ _ _ (by simp [tb_length]) (by simp [tb_length])]
      simp only [tb, hk]
    intro n hn
    obtain ⟨d, rfl⟩ : ∃ d, n = k + 1 + d := ⟨n - (k + 1), by omega⟩
    clear hn
    induction d with
    | zero => exact base
    | succ d ih =>
      have ht := H.top
      rw [show k + 1 + (d + 1) = (k + 1 + d) + 1 from by omega, tb_skip (n := k + 1 + d) (by omega), tb_skip (n := k + 1 + d) (r := a) (by omega), tb_skip (n := k + 1 + d) (r := b) (by omega), tb_skip (n := k + 1 + d) (r := c) (by omega),
        it3_append _ _ _ _ _ _ (by simp [tb_length]) (by simp [tb_length]), ih]

/-- What is remembered of choices made before. -/
def DoneOk (ns : List Nd) (dn : List (Nd × Int)) : Prop :=
  ∀ p ∈ dn, Ref ns p.1.1 ∧ Ref ns p.1.2.1 ∧ Ref ns p.1.2.2 ∧ Ref ns p.2 ∧
    (∀ m : Int, m ≤ top ns p.1.1 → m ≤ top ns p.1.2.1 → m ≤ top ns p.1.2.2 → m ≤ top ns p.2 ∧ ∀ n : Nat, (16 : Int) - n ≤ m → tb ns n p.2 = it3 (tb ns n p.1.1) (tb ns n p.1.2.1) (tb ns n p.1.2.2))

theorem DoneOk.app {ns : List Nd} {dn : List (Nd × Int)} (h : DoneOk ns dn) (g : Ord ns) (ms : List Nd) : DoneOk (ns ++ ms) dn := by
  intro p hp
  obtain ⟨h1, h2, h3, h4, h5⟩ := h p hp
  refine ⟨h1.app _, h2.app _, h3.app _, h4.app _, fun m a b c => ?_⟩
  rw [top_app h1] at a
  rw [top_app h2] at b
  rw [top_app h3] at c
  obtain ⟨t, k⟩ := h5 m a b c
  refine ⟨by rw [top_app h4]; exact t, fun n hn => ?_⟩
  rw [tb_app g n h4 (by omega), tb_app g n h1 (by omega), tb_app g n h2 (by omega), tb_app g n h3 (by omega)]
  exact k n hn

theorem DoneOk.hit {ns : List Nd} {dn : List (Nd × Int)} (h : DoneOk ns dn) (g : Good ns) {a b c r m : Int} (hp : ((a, b, c), r) ∈ dn) (ta : m ≤ top ns a) (tb' : m ≤ top ns b) (tc : m ≤ top ns c) : IteRes ns a b c m ns r := by
  obtain ⟨h1, h2, h3, h4, h5⟩ := h _ hp
  obtain ⟨t, k⟩ := h5 m ta tb' tc
  exact ⟨⟨[], by simp, one_le_pow _⟩, g, h4, t, k⟩

theorem DoneOk.push {ns ns' : List Nd} {dn : List (Nd × Int)} (h : DoneOk ns' dn) (g : Good ns) {a b c r v : Int} (ha : Ref ns a) (hb : Ref ns b) (hc : Ref ns c) (hv : v = min (top ns a) (min (top ns b) (top ns c))) (hr : IteRes ns a b c v ns' r) : DoneOk ns' (dn ++ [((a, b, c), r)]) := by
  obtain ⟨ms, rfl, _⟩ := hr.ext
  intro p hp
  rcases List.mem_append.1 hp with hp | hp
  · exact h p hp
  · simp at hp; subst hp
    refine ⟨ha.app _, hb.app _, hc.app _, hr.ref, fun m ta tb' tc => ?_⟩
    dsimp only at ta tb' tc ⊢
    rw [top_app ha] at ta
    rw [top_app hb] at tb'
    rw [top_app hc] at tc
    have hm : m ≤ v := by omega
    refine ⟨Int.le_trans hm hr.top, fun n hn => ?_⟩
    rw [tb_app g.ord n ha (by omega), tb_app g.ord n hb (by omega), tb_app g.ord n hc (by omega)]
    exact hr.tab n (by omega)

end Go.Proofs.Ythhogbligfmpdaa.Bd

/- Plain facts: whole tables as functions of the entry's number; formulas, their faults, their values. No program in sight. -/
namespace Go.Proofs.Ythhogbligfmpdaa.Bd

def tl (f : Nat → Bool) : List Bool := (List.range 65536).map f
/-- The table of a reference is that of a function of the entry's number: bit 15 - v of the number is the variable v. -/
def Tab (ns : List Nd) (r : Int) (f : Nat → Bool) : Prop := tb ns 16 r = tl f

theorem tl_congr {f g : Nat → Bool} (h : ∀ x, x < 65536 → f x = g x) : tl f = tl g := by
  unfold tl
  exact List.map_congr_left fun x hx => h x (List.mem_range.1 hx)
theorem tl_length (f : Nat → Bool) : (tl f).length = 65536 := by simp [tl]
theorem tl_get (f : Nat → Bool) {x : Nat} (h : x < 65536) : (tl f)[x]? = some (f x) := by simp [tl, h]
theorem tl_inj {f g : Nat → Bool} (h : tl f = tl g) {x : Nat} (hx : x < 65536) : f x = g x := by
  have a := tl_get f hx
  rw [h, tl_get g hx] at a
  simpa using a.symm

theorem it3_map (f g h : Nat → Bool) : ∀ l : List Nat, it3 (l.map f) (l.map g) (l.map h) = l.map fun x => if f x then g x else h x
  | [] => by simp [it3]
  | a :: l => by simp [it3, it3_map f g h l]

theorem map_const_range (n : Nat) (b : Bool) : (List.range n).map (fun _ => b) = List.replicate n b := by
  rw [List.eq_replicate_iff]
  exact ⟨by simp, by simp⟩
theorem two16 : (2 : Nat) ^ 16 = 65536 := by decide
theorem tab_false (ns : List Nd) : Tab ns (-1) fun _ => false := by
  unfold Tab tl
  rw [tb_const 16 (Nat.le_refl _) (by omega), two16, map_const_range]
  rfl
theorem tab_true (ns : List Nd) : Tab ns (-2) fun _ => true := by
  unfold Tab tl
  rw [tb_const 16 (Nat.le_refl _) (by omega), two16, map_const_range]
  rfl

theorem Tab.app {ns ms : List Nd} {r : Int} {f : Nat → Bool} (h : Tab ns r f) (o : Ord ns) (hr : Ref ns r) : Tab (ns ++ ms) r f := by
  unfold Tab at *
  rw [tb_app o 16 hr (by have := (o.top_lt hr).1; omega)]; exact h

theorem Tab.ite {ns ns' : List Nd} {a b c r : Int} {f g h : Nat → Bool} (ha : Tab ns a f) (hb : Tab ns b g) (hc : Tab ns c h) (hr : IteRes ns a b c 0 ns' r) : Tab ns' r fun x => if f x then g x else h x := by
  unfold Tab at *
  rw [hr.tab 16 (by omega), ha, hb, hc]
  exact it3_map f g h _

theorem Tab.congr {ns : List Nd} {r : Int} {f g : Nat → Bool} (h : Tab ns r f) (e : ∀ x, x < 65536 → f x = g x) : Tab ns r g := by
  unfold Tab at *; rw [h]; exact tl_congr e

theorem range_double (n : Nat) (f : Nat → Bool) : (List.range (2 ^ (n + 1))).map f = (List.range (2 ^ n)).map f ++ (List.range (2 ^ n)).map fun x => f (2 ^ n + x) := by
  rw [Nat.pow_succ, Nat.mul_two, List.range_add, List.map_append, List.map_map]
  rfl

/-- The table of a variable. -/
theorem tab_var {ns ns' : List Nd} {v r : Int} (hv : 0 ≤ v) (h16 : v < 16) (hr : NodeRes ns v (-1) (-2) ns' r) : Tab ns' r fun x => x.testBit (15 - v.toNat) := by
  obtain ⟨k, hk⟩ : ∃ k : Nat, (15 : Int) - k = v := ⟨(15 - v).toNat, by omega⟩
  have hk2 : 15 - v.toNat = k := by omega
  have hk15 : k ≤ 15 := by omega
  rw [hk2]
  have base : tb ns' (k + 1) r = (List.range (2 ^ (k + 1))).map fun x => x.testBit k := by
    rw [hr.tab k hk, tb_const k (by omega) (by omega), tb_const k (by omega) (by omega), range_double]
    congr 1
    · symm
      rw [List.eq_replicate_iff]
      refine ⟨by simp, ?_⟩
      intro b hb
      obtain ⟨x, hx, rfl⟩ := List.mem_map.1 hb
      rw [Nat.testBit_lt_two_pow (List.mem_range.1 hx)]; rfl
    · symm
      rw [List.eq_replicate_iff]
      refine ⟨by simp, ?_⟩
      intro b hb
      obtain ⟨x, hx, rfl⟩ := List.mem_map.1 hb
      rw [Nat.testBit_two_pow_add_eq, Nat.testBit_lt_two_pow (List.mem_range.1 hx)]; rfl
  have all : ∀ d, tb ns' (k + 1 + d) r = (List.range (2 ^ (k + 1 + d))).map fun x => x.testBit k := by
    intro d
    induction d with
    | zero => exact base
    | succ d ih =>
      have := hr.top
      rw [show k + 1 + (d + 1) = (k + 1 + d) + 1 from by omega, tb_skip (n := k + 1 + d) (by omega), ih, range_double]
      congr 1
      refine List.map_congr_left fun x _ => ?_
      rw [Nat.testBit_two_pow_add_gt (by omega)]
  have := all (16 - (k + 1))
  rw [show k + 1 + (16 - (k + 1)) = 16 from by omega, two16] at this
  exact this

end Go.Proofs.Ythhogbligfmpdaa.Bd

namespace Go.Proofs.Ythhogbligfmpdaa

/-- A formula. -/
inductive Fm where
  | mk (op var : Int) (kids : List Fm)

def Fm.op : Fm → Int | .mk o _ _ => o
def Fm.var : Fm → Int | .mk _ v _ => v
def Fm.kids : Fm → List Fm | .mk _ _ l => l

/-- How many nodes. -/
def cnt : Fm → Nat
  | .mk _ _ l => 1 + cntL l
where cntL : List Fm → Nat
  | [] => 0
  | f :: l => cnt f + cntL l

def want (op : Int) (n : Nat) : Nat := if op = 1 ∨ op = 2 then 0 else if op = 3 then 1 else if op = 6 then 2 else if op = 7 then 3 else n
def mostVar (op : Int) : Int := if op = 1 then 15 else if op = 2 then 1 else 0
def own (op var : Int) (n : Nat) : Int := if op < 1 ∨ 7 < op then 7 else if n ≠ want op n then 2 else if var < 0 ∨ mostVar op < var then 1 else 0

/-- The first fault of a formula's nodes, each ahead of its kids. -/
def fault : Fm → Int
  | .mk op var l => if own op var l.length ≠ 0 then own op var l.length else faultL l
where faultL : List Fm → Int
  | [] => 0
  | f :: l => if fault f ≠ 0 then fault f else faultL l

def opF (op var : Int) (ks : List Bool) (x : Nat) : Bool :=
  if op = 1 then x.testBit (15 - var.toNat) else if op = 2 then var == 1 else if op = 3 then !(ks.getD 0 false) else if op = 6 then (ks.getD 0 false != ks.getD 1 false)
  else if op = 7 then (if ks.getD 0 false then ks.getD 1 false else ks.getD 2 false) else if op = 5 then ks.any id else ks.all id

/-- Its value at an entry. -/
def evF : Fm → Nat → Bool
  | .mk op var l, x => opF op var (evL l x) x
where evL : List Fm → Nat → List Bool
  | [], _ => []
  | f :: l, x => evF f x :: evL l x

theorem evL_eq (l : List Fm) (x : Nat) : evF.evL l x = l.map fun f => evF f x := by
  induction l with
  | nil => rfl
  | cons f l ih => simp [evF.evL, ih]

theorem cntL_take (l : List Fm) (k : Nat) (h : k < l.length) : cnt.cntL (l.take (k + 1)) = cnt.cntL (l.take k) + cnt l[k] := by
  induction l generalizing k with
  | nil => simp at h
  | cons f l ih =>
    cases k with
    | zero => simp [cnt.cntL]
    | succ k => simp [cnt.cntL, ih k (by simpa using h)]; omega
theorem cntL_take_le (l : List Fm) (k : Nat) : cnt.cntL (l.take k) ≤ cnt.cntL l := by
  induction l generalizing k with
  | nil => simp [cnt.cntL]
  | cons f l ih =>
    cases k with
    | zero => simp [cnt.cntL]
    | succ k => have := ih k; simp [cnt.cntL]; omega

theorem cnt_pos (f : Fm) : 1 ≤ cnt f := by cases f; simp [cnt]
theorem len_le_cntL (l : List Fm) : l.length ≤ cnt.cntL l := by
  induction l with
  | nil => simp
  | cons f l ih => have := cnt_pos f; simp [cnt.cntL]; omega

theorem faultL_zero (l : List Fm) : fault.faultL l = 0 ↔ ∀ f ∈ l, fault f = 0 := by
  induction l with
  | nil => simp [fault.faultL]
  | cons f l ih =>
    simp only [fault.faultL, List.mem_cons, forall_eq_or_imp]
    by_cases h : fault f = 0
    · simp [h, ih]
    · simp [h]

theorem faultL_take (l : List Fm) (k : Nat) (h : k < l.length) (h0 : fault.faultL (l.take k) = 0) : fault.faultL (l.take (k + 1)) = fault l[k] := by
  induction l generalizing k with
  | nil => simp at h
  | cons f l ih =>
    cases k with
    | zero => simp [fault.faultL]; exact fun h => h.symm
    | succ k =>
      simp only [List.take_succ_cons, fault.faultL] at h0 ⊢
      by_cases hf : fault f = 0
      · simp only [hf, ne_eq, not_true_eq_false, if_false] at h0 ⊢
        simpa using ih k (by simpa using h) h0
      · simp [hf] at h0
theorem faultL_stop (l : List Fm) (k : Nat) (h0 : fault.faultL (l.take k) ≠ 0) : fault.faultL l = fault.faultL (l.take k) := by
  induction l generalizing k with
  | nil => simp
  | cons f l ih =>
    cases k with
    | zero => simp [fault.faultL] at h0
    | succ k =>
      simp only [List.take_succ_cons, fault.faultL] at h0 ⊢
      by_cases hf : fault f = 0
      · simp only [hf, ne_eq, not_true_eq_false, if_false] at h0 ⊢
        exact ih k h0
      · simp [hf]

end Go.Proofs.Ythhogbligfmpdaa

/- Plain facts: the canonical diagram of a table, and a walk over nodes that yields it. No program in sight. -/
namespace Go.Proofs.Ythhogbligfmpdaa.Bd

abbrev Key := Nat × List Bool

/-- The nodes of a table over n variables, in the order in which a walk finishes them. -/
def dfs : Nat → List Bool → List Key → List Key
  | 0, _, acc => acc
  | n + 1, t, acc =>
    if t.take (2 ^ n) = t.drop (2 ^ n) then dfs n (t.take (2 ^ n)) acc
    else if (n + 1, t) ∈ acc then acc
    else dfs n (t.drop (2 ^ n)) (dfs n (t.take (2 ^ n)) acc) ++ [(n + 1, t)]

/-- The place of a table among finished nodes; -1, -2 for the constants. -/
def rf (acc : List Key) : Nat → List Bool → Int
  | 0, t => if t = [true] then -2 else -1
  | n + 1, t => if t.take (2 ^ n) = t.drop (2 ^ n) then rf acc n (t.take (2 ^ n)) else (acc.idxOf (n + 1, t) : Int)

def ndOf (acc : List Key) (k : Key) : Nd := (16 - (k.1 : Int), rf acc (k.1 - 1) (k.2.take (2 ^ (k.1 - 1))), rf acc (k.1 - 1) (k.2.drop (2 ^ (k.1 - 1))))

/-- The canonical diagram of a table. -/
def cnAcc (t : List Bool) : List Key := dfs 16 t []
def cnNodes (t : List Bool) : List Nd := (cnAcc t).map (ndOf (cnAcc t))
def cnRoot (t : List Bool) : Int := rf (cnAcc t) 16 t

theorem dfs_succ (n : Nat) (t : List Bool) (acc : List Key) : dfs (n + 1) t acc = if t.take (2 ^ n) = t.drop (2 ^ n) then dfs n (t.take (2 ^ n)) acc
    else if (n + 1, t) ∈ acc then acc else dfs n (t.drop (2 ^ n)) (dfs n (t.take (2 ^ n)) acc) ++ [(n + 1, t)] := rfl
theorem rf_succ (acc : List Key) (n : Nat) (t : List Bool) : rf acc (n + 1) t = if t.take (2 ^ n) = t.drop (2 ^ n) then rf acc n (t.take (2 ^ n)) else (acc.idxOf (n + 1, t) : Int) := rfl

theorem dfs_app (n : Nat) : ∀ (t : List Bool) (acc : List Key), ∃ l, dfs n t acc = acc ++ l := by
  induction n with
  | zero => intro t acc; exact ⟨[], by simp [dfs]⟩
  | succ n ih =>
    intro t acc
    unfold dfs
    split
    · exact ih _ _
    · split
      · exact ⟨[], by simp⟩
      · obtain ⟨l1, e1⟩ := ih (t.take (2 ^ n)) acc
        obtain ⟨l2, e2⟩ := ih (t.drop (2 ^ n)) (dfs n (t.take (2 ^ n)) acc)
        exact ⟨l1 ++ l2 ++ [(n + 1, t)], by rw [e2, e1]; simp⟩

/-- The reduced node of a table is among those that are finished. -/
def Has (acc : List Key) : Nat → List Bool → Prop
  | 0, _ => True
  | n + 1, t => if t.take (2 ^ n) = t.drop (2 ^ n) then Has acc n (t.take (2 ^ n)) else (n + 1, t) ∈ acc

theorem dfs_has (n : Nat) : ∀ (t : List Bool) (acc : List Key), Has (dfs n t acc) n t := by
  induction n with
  | zero => intro t acc; trivial
  | succ n ih =>
    intro t acc
    unfold Has dfs
    by_cases h : t.take (2 ^ n) = t.drop (2 ^ n)
    · rw [if_pos h, if_pos h]; exact ih _ _
    · rw [if_neg h, if_neg h]
      split
      · assumption
      · simp

theorem Has.app {acc : List Key} (l : List Key) (n : Nat) : ∀ (t : List Bool), Has acc n t → Has (acc ++ l) n t := by
  induction n with
  | zero => intro t _; trivial
  | succ n ih =>
    intro t h
    have h' : if t.take (2 ^ n) = t.drop (2 ^ n) then Has acc n (t.take (2 ^ n)) else (n + 1, t) ∈ acc := h
    show if t.take (2 ^ n) = t.drop (2 ^ n) then Has (acc ++ l) n (t.take (2 ^ n)) else (n + 1, t) ∈ acc ++ l
    by_cases e : t.take (2 ^ n) = t.drop (2 ^ n)
    · rw [if_pos e] at h' ⊢; exact ih _ h'
    · rw [if_neg e] at h' ⊢; exact List.mem_append_left _ h'

theorem rf_app {acc : List Key} (l : List Key) (n : Nat) : ∀ (t : List Bool), Has acc n t → rf (acc ++ l) n t = rf acc n t := by
  induction n with
  | zero => intro t _; rfl
  | succ n ih =>
    intro t h
    have h' : if t.take (2 ^ n) = t.drop (2 ^ n) then Has acc n (t.take (2 ^ n)) else (n + 1, t) ∈ acc := h
    rw [rf_succ, rf_succ]
    by_cases e : t.take (2 ^ n) = t.drop (2 ^ n)
    · rw [if_pos e] at h'; rw [if_pos e, if_pos e]; exact ih _ h'
    · rw [if_neg e] at h'; rw [if_neg e, if_neg e, List.idxOf_append, if_pos h']

/-- Each finished node's parts are finished. -/
def Closed (acc : List Key) : Prop := ∀ k ∈ acc, 1 ≤ k.1 ∧ Has acc (k.1 - 1) (k.2.take (2 ^ (k.1 - 1))) ∧ Has acc (k.1 - 1) (k.2.drop (2 ^ (k.1 - 1)))

theorem Closed.ndOf_app {acc : List Key} (h : Closed acc) (l : List Key) {k : Key} (hk : k ∈ acc) : ndOf (acc ++ l) k = ndOf acc k := by
  obtain ⟨_, h1, h2⟩ := h k hk
  simp only [ndOf]
  rw [rf_app l _ _ h1, rf_app l _ _ h2]

theorem Closed.dfs (n : Nat) : ∀ (t : List Bool) (acc : List Key), Closed acc → Closed (dfs n t acc) := by
  induction n with
  | zero => intro t acc h; exact h
  | succ n ih =>
    intro t acc h
    unfold Bd.dfs
    split
    · exact ih _ _ h
    · split
      · exact h
      · have h1 := ih (t.take (2 ^ n)) acc h
        have h2 := ih (t.drop (2 ^ n)) _ h1
        have a1 := dfs_has n (t.take (2 ^ n)) acc
        have a2 := dfs_has n (t.drop (2 ^ n)) (Bd.dfs n (t.take (2 ^ n)) acc)
        obtain ⟨l2, e2⟩ := dfs_app n (t.drop (2 ^ n)) (Bd.dfs n (t.take (2 ^ n)) acc)
        intro k hk
        rcases List.mem_append.1 hk with hk | hk
        · obtain ⟨b0, b1, b2⟩ := h2 k hk
          exact ⟨b0, b1.app _ _ _, b2.app _ _ _⟩
        · simp only [List.mem_cons, List.not_mem_nil, or_false] at hk
          subst hk
          refine ⟨by show 1 ≤ n + 1; omega, ?_, a2.app _ _ _⟩
          show Has _ n (t.take (2 ^ n))
          refine Has.app _ _ _ ?_
          rw [e2]; exact a1.app _ _ _

/-! The nodes of a list of nodes, as keys. -/

def lev (ns : List Nd) (r : Int) : Nat := (16 - top ns r).toNat
def key (ns : List Nd) (r : Int) : Key := (lev ns r, tb ns (lev ns r) r)

theorem take_tb (ns : List Nd) (n : Nat) (a b : Int) : (tb ns n a ++ tb ns n b).take (2 ^ n) = tb ns n a := by
  rw [List.take_append_of_le_length (by rw [tb_length]; exact Nat.le_refl _), List.take_of_length_le (by rw [tb_length]; exact Nat.le_refl _)]
theorem drop_tb (ns : List Nd) (n : Nat) (a b : Int) : (tb ns n a ++ tb ns n b).drop (2 ^ n) = tb ns n b := by
  rw [List.drop_append_of_le_length (by rw [tb_length]; exact Nat.le_refl _), List.drop_of_length_le (by rw [tb_length]; exact Nat.le_refl _)]; simp

/-- Above its level a node's table says the same. -/
theorem dfs_up {ns : List Nd} (o : Ord ns) {r : Int} (hr : Ref ns r) (acc : List Key) : ∀ d, dfs (lev ns r + d) (tb ns (lev ns r + d) r) acc = dfs (lev ns r) (tb ns (lev ns r) r) acc := by
  intro d
  induction d with
  | zero => rfl
  | succ d ih =>
    have ht := o.top_lt hr
    have hs : tb ns (lev ns r + d + 1) r = tb ns (lev ns r + d) r ++ tb ns (lev ns r + d) r := tb_skip (by unfold lev; omega)
    rw [show lev ns r + (d + 1) = (lev ns r + d) + 1 from by omega, dfs_succ]
    rw [hs, take_tb, drop_tb, if_pos rfl]; exact ih

theorem rf_up {ns : List Nd} (o : Ord ns) {r : Int} (hr : Ref ns r) (acc : List Key) : ∀ d, rf acc (lev ns r + d) (tb ns (lev ns r + d) r) = rf acc (lev ns r) (tb ns (lev ns r) r) := by
  intro d
  induction d with
  | zero => rfl
  | succ d ih =>
    have ht := o.top_lt hr
    have hs : tb ns (lev ns r + d + 1) r = tb ns (lev ns r + d) r ++ tb ns (lev ns r + d) r := tb_skip (by unfold lev; omega)
    rw [show lev ns r + (d + 1) = (lev ns r + d) + 1 from by omega, rf_succ]
    rw [hs, take_tb, drop_tb, if_pos rfl]; exact ih

theorem lev_le {ns : List Nd} (o : Ord ns) {r : Int} (hr : Ref ns r) : lev ns r ≤ 16 := by
  have := o.top_lt hr; unfold lev; omega

theorem dfs_at {ns : List Nd} (o : Ord ns) {r : Int} (hr : Ref ns r) (acc : List Key) {n : Nat} (h : lev ns r ≤ n) : dfs n (tb ns n r) acc = dfs (lev ns r) (tb ns (lev ns r) r) acc := by
  have := dfs_up o hr acc (n - lev ns r)
  rwa [show lev ns r + (n - lev ns r) = n from by omega] at this
theorem rf_at {ns : List Nd} (o : Ord ns) {r : Int} (hr : Ref ns r) (acc : List Key) {n : Nat} (h : lev ns r ≤ n) : rf acc n (tb ns n r) = rf acc (lev ns r) (tb ns (lev ns r) r) := by
  have := rf_up o hr acc (n - lev ns r)
  rwa [show lev ns r + (n - lev ns r) = n from by omega] at this

/-- A constant. -/
theorem dfs_neg {N : Nat} (hN : 16 ≤ N) {ns : List Nd} (o : Ord ns) {r : Int} (hr : Ref ns r) (h : r < 0) (acc : List Key) : dfs N (tb ns N r) acc = acc ∧ rf acc N (tb ns N r) = r := by
  have h0 : lev ns r = 0 := by unfold lev; rw [top_neg h]; rfl
  rw [dfs_at o hr acc (Nat.le_trans (lev_le o hr) hN), rf_at o hr acc (Nat.le_trans (lev_le o hr) hN), h0]
  refine ⟨rfl, ?_⟩
  have := hr.1
  rcases (by omega : r = -1 ∨ r = -2) with rfl | rfl
  · simp [tb, rf]
  · simp [tb, rf]

theorem key_inj {ns : List Nd} (g : Good ns) {r s : Int} (hr : Ref ns r) (hs : Ref ns s) (h : key ns r = key ns s) : r = s := by
  simp only [key, Prod.mk.injEq] at h
  obtain ⟨h1, h2⟩ := h
  have ar := g.ord.top_lt hr
  have as := g.ord.top_lt hs
  rw [h1] at h2
  refine g.inj (lev ns s) hr hs ?_ ?_ h2
  · rw [← h1]; unfold lev; omega
  · unfold lev; omega

/-- A node, one level down. -/
theorem node_parts {ns : List Nd} (g : Good ns) {r : Int} (hr : Ref ns r) (h0 : 0 ≤ r) : ∃ n, lev ns r = n + 1 ∧ tb ns (n + 1) r = tb ns n (lo ns r) ++ tb ns n (hi ns r) ∧ tb ns n (lo ns r) ≠ tb ns n (hi ns r) ∧ lev ns (lo ns r) ≤ n ∧ lev ns (hi ns r) ≤ n ∧ (nd ns r).1 = 16 - ((n + 1 : Nat) : Int) := by
  have ht := g.ord.top_lt hr
  have hl := g.ord.ref_lo hr h0
  have hh := g.ord.ref_hi hr h0
  have ht2 := ht.2.2 h0
  obtain ⟨i, rfl⟩ := Int.eq_ofNat_of_zero_le h0
  have hn : lev ns i = (15 - top ns i).toNat + 1 := by unfold lev; omega
  refine ⟨(15 - top ns i).toNat, hn, tb_node (by omega), ?_, by unfold lev; omega, by unfold lev; omega, by rw [← top_nat]; omega⟩
  intro e
  have := g.inj _ hl.1 hh.1 (by omega) (by omega) e
  exact g.red i (by have := hr.2; omega) this

theorem dfs_node {N : Nat} (hN : 16 ≤ N) {ns : List Nd} (g : Good ns) {r : Int} (hr : Ref ns r) (h0 : 0 ≤ r) (acc : List Key) (hn : key ns r ∉ acc) :
    dfs N (tb ns N r) acc = dfs N (tb ns N (hi ns r)) (dfs N (tb ns N (lo ns r)) acc) ++ [key ns r] := by
  obtain ⟨n, e1, e2, e3, e4, e5, _⟩ := node_parts g hr h0
  have hl := g.ord.ref_lo hr h0
  have hh := g.ord.ref_hi hr h0
  rw [dfs_at g.ord hr acc (Nat.le_trans (lev_le g.ord hr) hN), e1]
  unfold key at *
  rw [e1] at hn ⊢
  rw [dfs_at g.ord hl.1 acc (Nat.le_trans (lev_le g.ord hl.1) hN), dfs_at g.ord hh.1 _ (Nat.le_trans (lev_le g.ord hh.1) hN), ← dfs_at g.ord hl.1 acc e4, ← dfs_at g.ord hh.1 _ e5]
  rw [dfs_succ, if_neg (by rw [e2, take_tb, drop_tb]; exact e3), if_neg hn, e2, take_tb, drop_tb]

theorem dfs_known {N : Nat} (hN : 16 ≤ N) {ns : List Nd} (g : Good ns) {r : Int} (hr : Ref ns r) (h0 : 0 ≤ r) (acc : List Key) (hn : key ns r ∈ acc) : dfs N (tb ns N r) acc = acc := by
  obtain ⟨n, e1, e2, e3, e4, e5, _⟩ := node_parts g hr h0
  rw [dfs_at g.ord hr acc (Nat.le_trans (lev_le g.ord hr) hN), e1]
  unfold key at *
  rw [e1] at hn
  rw [dfs_succ, if_neg (by rw [e2, take_tb, drop_tb]; exact e3), if_pos hn]

theorem rf_node {N : Nat} (hN : 16 ≤ N) {ns : List Nd} (g : Good ns) {r : Int} (hr : Ref ns r) (h0 : 0 ≤ r) (acc : List Key) : rf acc N (tb ns N r) = (acc.idxOf (key ns r) : Int) := by
  obtain ⟨n, e1, e2, e3, _⟩ := node_parts g hr h0
  rw [rf_at g.ord hr acc (Nat.le_trans (lev_le g.ord hr) hN), e1]
  unfold key
  rw [e1, rf_succ, if_neg (by rw [e2, take_tb, drop_tb]; exact e3)]

theorem ndOf_key {N : Nat} (hN : 16 ≤ N) {ns : List Nd} (g : Good ns) {r : Int} (hr : Ref ns r) (h0 : 0 ≤ r) (acc : List Key) : ndOf acc (key ns r) = ((nd ns r).1, rf acc N (tb ns N (lo ns r)), rf acc N (tb ns N (hi ns r))) := by
  obtain ⟨n, e1, e2, e3, e4, e5, e6⟩ := node_parts g hr h0
  have hl := g.ord.ref_lo hr h0
  have hh := g.ord.ref_hi hr h0
  unfold key
  rw [e1]
  simp only [ndOf, Nat.add_sub_cancel]
  rw [e2, take_tb, drop_tb, e6, rf_at g.ord hl.1 acc (Nat.le_trans (lev_le g.ord hl.1) hN), rf_at g.ord hh.1 acc (Nat.le_trans (lev_le g.ord hh.1) hN), rf_at g.ord hl.1 acc e4, rf_at g.ord hh.1 acc e5]

end Go.Proofs.Ythhogbligfmpdaa.Bd

namespace Go.Proofs.Ythhogbligfmpdaa.Bd

theorem dfs_lev (n : Nat) : ∀ (t : List Bool) (acc : List Key) (k : Key), k ∈ dfs n t acc → k ∈ acc ∨ k.1 ≤ n := by
  induction n with
  | zero => intro t acc k h; exact Or.inl h
  | succ n ih =>
    intro t acc k h
    rw [dfs_succ] at h
    split at h
    · rcases ih _ _ _ h with h | h
      · exact Or.inl h
      · exact Or.inr (by omega)
    · split at h
      · exact Or.inl h
      · rcases List.mem_append.1 h with h | h
        · rcases ih _ _ _ h with h | h
          · rcases ih _ _ _ h with h | h
            · exact Or.inl h
            · exact Or.inr (by omega)
          · exact Or.inr (by omega)
        · simp only [List.mem_cons, List.not_mem_nil, or_false] at h
          subst h; exact Or.inr (Nat.le_refl _)

theorem dfs_len (n : Nat) : ∀ (t : List Bool) (acc : List Key), (dfs n t acc).length + 1 ≤ acc.length + 2 ^ n := by
  induction n with
  | zero => intro t acc; simp [dfs]
  | succ n ih =>
    intro t acc
    have hp : 2 ^ (n + 1) = 2 ^ n + 2 ^ n := by rw [Nat.pow_succ]; omega
    rw [dfs_succ]
    split
    · have := ih (t.take (2 ^ n)) acc
      rw [hp]
      generalize (dfs n (t.take (2 ^ n)) acc).length = q at *
      generalize 2 ^ n = p at *
      omega
    · split
      · have : 1 ≤ 2 ^ n := Nat.one_le_two_pow
        rw [hp]
        generalize 2 ^ n = p at *
        omega
      · have a := ih (t.take (2 ^ n)) acc
        have b := ih (t.drop (2 ^ n)) (dfs n (t.take (2 ^ n)) acc)
        rw [List.length_append, List.length_cons, List.length_nil, hp]
        generalize (dfs n (t.drop (2 ^ n)) (dfs n (t.take (2 ^ n)) acc)).length = q at *
        generalize (dfs n (t.take (2 ^ n)) acc).length = q at *
        generalize 2 ^ n = p at *
        omega

/-- A walk over references: those that are finished, and the nodes made of them. -/
structure WS (ns : List Nd) (L : List Int) (O : List Nd) : Prop where
  refs : ∀ r ∈ L, Ref ns r ∧ 0 ≤ r
  closed : Closed (L.map (key ns))
  out : O = (L.map (key ns)).map (ndOf (L.map (key ns)))

theorem WS.nil (ns : List Nd) : WS ns [] [] := ⟨by simp, by intro k hk; simp at hk, rfl⟩

theorem WS.len {ns : List Nd} {L : List Int} {O : List Nd} (h : WS ns L O) : O.length = L.length := by rw [h.out]; simp

theorem mem_key {ns : List Nd} (g : Good ns) {L : List Int} (hL : ∀ r ∈ L, Ref ns r ∧ 0 ≤ r) {r : Int} (hr : Ref ns r) : key ns r ∈ L.map (key ns) ↔ r ∈ L := by
  rw [List.mem_map]
  constructor
  · rintro ⟨s, hs, e⟩
    rw [← key_inj g (hL s hs).1 hr e]; exact hs
  · intro h; exact ⟨r, h, rfl⟩

theorem idx_key {ns : List Nd} (g : Good ns) {r : Int} (hr : Ref ns r) : ∀ (L : List Int), (∀ s ∈ L, Ref ns s ∧ 0 ≤ s) → (L.map (key ns)).idxOf (key ns r) = L.idxOf r
  | [], _ => by simp
  | s :: L, hL => by
    have ih := idx_key g hr L (fun x hx => hL x (List.mem_cons_of_mem _ hx))
    rw [List.map_cons, List.idxOf_cons, List.idxOf_cons, ih]
    by_cases e : s = r
    · subst e; rw [beq_self_eq_true, beq_self_eq_true]
    · have : key ns s ≠ key ns r := fun h => e (key_inj g (hL s List.mem_cons_self).1 hr h)
      rw [beq_eq_false_iff_ne.2 e, beq_eq_false_iff_ne.2 this]

theorem idx_last {L : List Int} {r : Int} (h : r ∉ L) : (L ++ [r]).idxOf r = L.length := by
  rw [List.idxOf_append, if_neg h]; simp

/-- A new node is finished behind its parts. -/
theorem WS.push {N : Nat} (hN : 16 ≤ N) {ns : List Nd} (g : Good ns) {L L1 L2 : List Int} {O1 O2 : List Nd} {r : Int} (hr : Ref ns r) (h0 : 0 ≤ r) (hn : r ∉ L) (hL : ∀ s ∈ L, Ref ns s ∧ 0 ≤ s) (hLc : Closed (L.map (key ns)))
    (h1 : WS ns L1 O1) (e1 : L1.map (key ns) = dfs N (tb ns N (lo ns r)) (L.map (key ns))) (h2 : WS ns L2 O2) (e2 : L2.map (key ns) = dfs N (tb ns N (hi ns r)) (L1.map (key ns))) :
    r ∉ L2 ∧ WS ns (L2 ++ [r]) (O2 ++ [((nd ns r).1, rf (L1.map (key ns)) N (tb ns N (lo ns r)), rf (L2.map (key ns)) N (tb ns N (hi ns r)))]) ∧
      (L2 ++ [r]).map (key ns) = dfs N (tb ns N r) (L.map (key ns)) ∧ rf ((L2 ++ [r]).map (key ns)) N (tb ns N r) = L2.length := by
  obtain ⟨n, k1, k2, k3, k4, k5, k6⟩ := node_parts g hr h0
  have hl := g.ord.ref_lo hr h0
  have hh := g.ord.ref_hi hr h0
  have hr2 : r ∉ L2 := by
    intro hm
    have hm2 := (mem_key g h2.refs hr).2 hm
    rw [e2, dfs_at g.ord hh.1 _ (Nat.le_trans (lev_le g.ord hh.1) hN)] at hm2
    rcases dfs_lev _ _ _ _ hm2 with hm3 | hm3
    · rw [e1, dfs_at g.ord hl.1 _ (Nat.le_trans (lev_le g.ord hl.1) hN)] at hm3
      rcases dfs_lev _ _ _ _ hm3 with hm4 | hm4
      · exact hn ((mem_key g hL hr).1 hm4)
      · simp only [key] at hm4; omega
    · simp only [key] at hm3; omega
  have hnk : key ns r ∉ L.map (key ns) := fun h => hn ((mem_key g hL hr).1 h)
  have e3 : (L2 ++ [r]).map (key ns) = dfs N (tb ns N r) (L.map (key ns)) := by
    rw [dfs_node hN g hr h0 _ hnk, List.map_append, e2, e1]; rfl
  have hLr : ∀ s ∈ L2 ++ [r], Ref ns s ∧ 0 ≤ s := by
    intro s hs
    rcases List.mem_append.1 hs with hs | hs
    · exact h2.refs s hs
    · simp only [List.mem_cons, List.not_mem_nil, or_false] at hs; subst hs; exact ⟨hr, h0⟩
  obtain ⟨l2, a2⟩ := dfs_app N (tb ns N (hi ns r)) (L1.map (key ns))
  have hasl : Has (L1.map (key ns)) N (tb ns N (lo ns r)) := by rw [e1]; exact dfs_has _ _ _
  have hash : Has (L2.map (key ns)) N (tb ns N (hi ns r)) := by rw [e2]; exact dfs_has _ _ _
  have hcl : Closed ((L2 ++ [r]).map (key ns)) := by rw [e3]; exact Closed.dfs N _ _ hLc
  refine ⟨hr2, ⟨hLr, hcl, ?_⟩, e3, ?_⟩
  · rw [h2.out, List.map_append, List.map_append]
    congr 1
    · refine List.map_congr_left fun k hk => ?_
      exact (h2.closed.ndOf_app _ hk).symm
    · rw [List.map_cons, List.map_nil, List.map_cons, List.map_nil, ndOf_key hN g hr h0]
      rw [rf_app _ _ _ hash]
      have : rf (L2.map (key ns) ++ [key ns r]) N (tb ns N (lo ns r)) = rf (L1.map (key ns)) N (tb ns N (lo ns r)) := by
        rw [e2, a2, List.append_assoc, rf_app _ _ _ hasl]
      rw [this]
  · rw [rf_node hN g hr h0, idx_key g hr _ hLr, idx_last hr2]

end Go.Proofs.Ythhogbligfmpdaa.Bd

/- Plain facts on the walk over tables. No program in sight. -/
namespace Go.Proofs.Ythhogbligfmpdaa.Bd

def unif (t : List Bool) : Bool := t.all (· == t.getD 0 false)

theorem unif_iff {t : List Bool} : unif t = true ↔ ∀ i, i < t.length → t.getD i false = t.getD 0 false := by
  unfold unif
  rw [List.all_eq_true]
  constructor
  · intro h i hi
    have := h (t[i]) (List.getElem_mem hi)
    rw [List.getD_eq_getElem?_getD, List.getElem?_eq_getElem hi]
    simpa using this
  · intro h x hx
    obtain ⟨i, hi, rfl⟩ := List.mem_iff_getElem.1 hx
    have := h i hi
    rw [List.getD_eq_getElem?_getD, List.getElem?_eq_getElem hi] at this
    simpa using this

theorem unif_rep {t : List Bool} (h : unif t = true) : t = List.replicate t.length (t.getD 0 false) := by
  rw [List.eq_replicate_iff]
  refine ⟨rfl, fun b hb => ?_⟩
  have := List.all_eq_true.1 h b hb
  simpa using this

theorem rep_unif (n : Nat) (b : Bool) : unif (List.replicate n b) = true := by
  rw [unif_iff]
  intro i hi
  simp only [List.length_replicate] at hi
  simp [List.getD_eq_getElem?_getD, hi, show 0 < n by omega]

theorem dfs_rep (n : Nat) (b : Bool) (acc : List Key) : dfs n (List.replicate (2 ^ n) b) acc = acc ∧ rf acc n (List.replicate (2 ^ n) b) = if b then -2 else -1 := by
  induction n with
  | zero => cases b <;> simp [dfs, rf]
  | succ n ih =>
    have h1 : (List.replicate (2 ^ (n + 1)) b).take (2 ^ n) = List.replicate (2 ^ n) b := by
      rw [List.take_replicate]; congr 1
      exact Nat.min_eq_left (pow_mono (by omega))
    have h2 : (List.replicate (2 ^ (n + 1)) b).drop (2 ^ n) = List.replicate (2 ^ n) b := by
      rw [List.drop_replicate]; congr 1
      rw [Nat.pow_succ, Nat.mul_two, Nat.add_sub_cancel]
    rw [dfs_succ, rf_succ, h1, h2, if_pos rfl, if_pos rfl]
    exact ih

theorem dfs_unif {n : Nat} {t : List Bool} (hl : t.length = 2 ^ n) (h : unif t = true) (acc : List Key) : dfs n t acc = acc ∧ rf acc n t = if t.getD 0 false then -2 else -1 := by
  have e := unif_rep h
  rw [hl] at e
  have := dfs_rep n (t.getD 0 false) acc
  rw [← e] at this
  exact this

theorem unif_one {t : List Bool} (hl : t.length = 1) : unif t = true := by
  match t, hl with
  | [b], _ => simp [unif]

theorem unif_pos {n : Nat} {t : List Bool} (hl : t.length = 2 ^ n) (h : unif t = false) : ∃ m, n = m + 1 := by
  cases n with
  | zero => rw [unif_one (by simpa using hl)] at h; simp at h
  | succ m => exact ⟨m, rfl⟩

theorem half_len {m : Nat} {t : List Bool} (hl : t.length = 2 ^ (m + 1)) : (t.take (2 ^ m)).length = 2 ^ m ∧ (t.drop (2 ^ m)).length = 2 ^ m := by
  have : 2 ^ (m + 1) = 2 ^ m + 2 ^ m := by rw [Nat.pow_succ]; omega
  constructor
  · rw [List.length_take, hl]; omega
  · rw [List.length_drop, hl]; omega

/-- Both halves are alike: the table says no more than its first half. -/
theorem half_same {m : Nat} {t : List Bool} (hl : t.length = 2 ^ (m + 1)) (h : t.take (2 ^ m) = t.drop (2 ^ m)) (hu : unif t = false) : (∀ acc, dfs (m + 1) t acc = dfs m (t.take (2 ^ m)) acc) ∧ (∀ acc, rf acc (m + 1) t = rf acc m (t.take (2 ^ m))) ∧ unif (t.take (2 ^ m)) = false := by
  refine ⟨fun acc => by rw [dfs_succ, if_pos h], fun acc => by rw [rf_succ, if_pos h], ?_⟩
  cases hc : unif (t.take (2 ^ m)) with
  | false => rfl
  | true =>
    have e := unif_rep hc
    rw [(half_len hl).1] at e
    have : t = List.replicate (2 ^ m + 2 ^ m) ((t.take (2 ^ m)).getD 0 false) := by
      rw [← List.replicate_append_replicate, ← e]
      conv => lhs; rw [← List.take_append_drop (2 ^ m) t, ← h]
    rw [this, rep_unif] at hu
    simp at hu

/-- The halves differ and the node is known. -/
theorem walk_hit {m : Nat} {t : List Bool} (h : t.take (2 ^ m) ≠ t.drop (2 ^ m)) {acc : List Key} (hm : (m + 1, t) ∈ acc) : dfs (m + 1) t acc = acc ∧ rf acc (m + 1) t = (acc.idxOf (m + 1, t) : Int) := by
  rw [dfs_succ, if_neg h, if_pos hm, rf_succ, if_neg h]; exact ⟨rfl, rfl⟩

/-- It is not known. -/
theorem walk_miss {m : Nat} {t : List Bool} (h : t.take (2 ^ m) ≠ t.drop (2 ^ m)) {acc : List Key} (hm : (m + 1, t) ∉ acc) : dfs (m + 1) t acc = dfs m (t.drop (2 ^ m)) (dfs m (t.take (2 ^ m)) acc) ++ [(m + 1, t)] := by
  rw [dfs_succ, if_neg h, if_neg hm]

theorem miss_root {m : Nat} {t : List Bool} (h : t.take (2 ^ m) ≠ t.drop (2 ^ m)) {acc : List Key} (hm : (m + 1, t) ∉ acc) : rf (dfs (m + 1) t acc) (m + 1) t = ((dfs m (t.drop (2 ^ m)) (dfs m (t.take (2 ^ m)) acc)).length : Int) := by
  have hn : (m + 1, t) ∉ dfs m (t.drop (2 ^ m)) (dfs m (t.take (2 ^ m)) acc) := by
    intro hx
    rcases dfs_lev _ _ _ _ hx with hx | hx
    · rcases dfs_lev _ _ _ _ hx with hx | hx
      · exact hm hx
      · simp at hx; omega
    · simp at hx; omega
  rw [walk_miss h hm, rf_succ, if_neg h, List.idxOf_append, if_neg hn]
  simp

/-- The nodes behind a new one. -/
theorem miss_nodes {m : Nat} {t : List Bool} (h : t.take (2 ^ m) ≠ t.drop (2 ^ m)) {acc : List Key} (hc : Closed acc) (hm : (m + 1, t) ∉ acc) :
    (dfs (m + 1) t acc).map (ndOf (dfs (m + 1) t acc)) = (dfs m (t.drop (2 ^ m)) (dfs m (t.take (2 ^ m)) acc)).map (ndOf (dfs m (t.drop (2 ^ m)) (dfs m (t.take (2 ^ m)) acc))) ++
      [(16 - ((m + 1 : Nat) : Int), rf (dfs m (t.take (2 ^ m)) acc) m (t.take (2 ^ m)), rf (dfs m (t.drop (2 ^ m)) (dfs m (t.take (2 ^ m)) acc)) m (t.drop (2 ^ m)))] := by
  rw [walk_miss h hm]
  have hc1 := Closed.dfs m (t.take (2 ^ m)) acc hc
  have hc2 := Closed.dfs m (t.drop (2 ^ m)) _ hc1
  obtain ⟨l2, e2⟩ := dfs_app m (t.drop (2 ^ m)) (dfs m (t.take (2 ^ m)) acc)
  rw [List.map_append]
  congr 1
  · exact List.map_congr_left fun k hk => hc2.ndOf_app _ hk
  · simp only [List.map_cons, List.map_nil, ndOf, Nat.add_sub_cancel]
    rw [rf_app _ _ _ (dfs_has m (t.drop (2 ^ m)) _)]
    have : rf (dfs m (t.drop (2 ^ m)) (dfs m (t.take (2 ^ m)) acc) ++ [(m + 1, t)]) m (t.take (2 ^ m)) = rf (dfs m (t.take (2 ^ m)) acc) m (t.take (2 ^ m)) := by
      rw [e2, List.append_assoc, rf_app _ _ _ (dfs_has m (t.take (2 ^ m)) acc)]
    rw [this]

end Go.Proofs.Ythhogbligfmpdaa.Bd
