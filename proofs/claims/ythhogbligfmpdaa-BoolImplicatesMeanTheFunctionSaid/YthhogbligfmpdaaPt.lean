/- Plain facts for the reference's Primes: the entries that count. No program. -/
import Derived.Test.YthhogbligfmpdaaPs
set_option linter.unusedVariables false
set_option linter.unusedSimpArgs false
namespace Go.Proofs.Ythhogbligfmpdaa.Bd

/-- An entry made of the bits of k. -/
def xk (k : Nat) (vs : List Int) : Nat → Nat
  | 0 => 0
  | i + 1 => xk k vs i ||| ((k.testBit i).toNat * 2 ^ kO (vs.getD i 0))

theorem kO_lt (v : Int) (h : 0 ≤ v) : kO v < 16 := by unfold kO; omega
theorem bitmul (b : Bool) (e i : Nat) : (b.toNat * 2 ^ e).testBit i = (b && decide (i = e)) := by
  cases b
  · simp
  · simp [Nat.testBit_two_pow, eq_comm]
theorem xk_bit (k : Nat) (vs : List Int) (i b : Nat) : (xk k vs (i + 1)).testBit b = ((xk k vs i).testBit b || (k.testBit i && decide (b = kO (vs.getD i 0)))) := by
  simp only [xk, Nat.testBit_or, bitmul]

theorem Vs.get {vs : List Int} (h : Vs vs) {i : Nat} (hi : i < vs.length) : 0 ≤ vs.getD i 0 ∧ vs.getD i 0 < 16 := by
  rw [List.getD_eq_getElem?_getD, List.getElem?_eq_getElem hi]
  exact h.rng _ (List.getElem_mem hi)
theorem Vs.inj {vs : List Int} (h : Vs vs) {i j : Nat} (hi : i < vs.length) (hj : j < vs.length) (e : kO (vs.getD i 0) = kO (vs.getD j 0)) : i = j := by
  have e2 := kO_inj (h.get hi) (h.get hj) e
  rw [List.getD_eq_getElem?_getD, List.getD_eq_getElem?_getD, List.getElem?_eq_getElem hi, List.getElem?_eq_getElem hj] at e2
  simp only [Option.getD_some] at e2
  rcases Nat.lt_trichotomy i j with x | x | x
  · have := List.pairwise_iff_getElem.1 h.srt i j hi hj x; omega
  · exact x
  · have := List.pairwise_iff_getElem.1 h.srt j i hj hi x; omega

theorem xk_lt {vs : List Int} (h : Vs vs) (k : Nat) : ∀ i, i ≤ vs.length → xk k vs i < 65536
  | 0, _ => by simp [xk]
  | i + 1, hi => by
    have ih := xk_lt h k i (by omega)
    have hk := kO_lt _ (h.get (i := i) (by omega)).1
    rw [← two16] at ih ⊢
    refine Nat.or_lt_two_pow ih ?_
    have h1 : 2 ^ kO (vs.getD i 0) < 2 ^ 16 := Nat.pow_lt_pow_right (by omega) hk
    cases k.testBit i
    · simp
    · simpa using h1

theorem xk_none {vs : List Int} (k b : Nat) : ∀ i, (∀ j, j < i → kO (vs.getD j 0) ≠ b) → (xk k vs i).testBit b = false
  | 0, _ => by simp [xk]
  | i + 1, h => by
    rw [xk_bit, xk_none k b i (fun j hj => h j (by omega))]
    have := h i (by omega)
    have e : decide (b = kO (vs.getD i 0)) = false := decide_eq_false (fun x => this x.symm)
    rw [e]; simp
theorem xk_at {vs : List Int} (h : Vs vs) (k : Nat) {j : Nat} : ∀ i, j < i → i ≤ vs.length → (xk k vs i).testBit (kO (vs.getD j 0)) = k.testBit j
  | 0, hj, _ => absurd hj (Nat.not_lt_zero _)
  | i + 1, hj, hi => by
    rw [xk_bit]
    by_cases e : j = i
    · subst e
      rw [xk_none k _ j (fun q hq e => by have := h.inj (i := q) (j := j) (by omega) (by omega) e; omega)]
      simp
    · rw [xk_at h k i (by omega) (by omega)]
      have e2 : decide (kO (vs.getD j 0) = kO (vs.getD i 0)) = false := decide_eq_false (fun x => e (h.inj (by omega) (by omega) x))
      rw [e2]; simp

/-- The number of an entry's bits. -/
def kf (x : Nat) : List Int → Nat
  | [] => 0
  | v :: vs => (x.testBit (kO v)).toNat + 2 * kf x vs
theorem kf_lt (x : Nat) : ∀ vs, kf x vs < 2 ^ vs.length
  | [] => by simp [kf]
  | v :: vs => by
    have := kf_lt x vs
    simp only [kf, List.length_cons, Nat.pow_succ]
    cases x.testBit (kO v) <;> simp <;> omega
theorem kf_bit (x : Nat) : ∀ (vs : List Int) (j : Nat), j < vs.length → (kf x vs).testBit j = x.testBit (kO (vs.getD j 0))
  | [], j, h => by simp at h
  | v :: vs, 0, _ => by
    have e : (v :: vs).getD 0 0 = v := rfl
    rw [e]
    simp only [kf, Nat.testBit_zero]
    cases x.testBit (kO v)
    · simp
    · simp [Nat.add_mod]
  | v :: vs, j + 1, h => by
    rw [Nat.testBit_succ]
    have e : kf x (v :: vs) / 2 = kf x vs := by
      simp only [kf]
      cases x.testBit (kO v) <;> simp <;> omega
    rw [e, kf_bit x vs j (by simpa using h)]
    rfl

/-- The table hangs on these variables alone. -/
def Dep (T : List Bool) (vs : List Int) : Prop := ∀ x y, x < 65536 → y < 65536 → (∀ v ∈ vs, x.testBit (kO v) = y.testBit (kO v)) → T.getD x false = T.getD y false

/-- The entries at which the table is true, one for each assignment of the variables. -/
def tru (T : List Bool) (vs : List Int) (m : Nat) : List Nat := ((List.range m).map fun k => xk k vs vs.length).filter fun x => T.getD x false

theorem tru_mem {T : List Bool} {vs : List Int} {m x : Nat} : x ∈ tru T vs m ↔ (∃ k, k < m ∧ x = xk k vs vs.length) ∧ T.getD x false = true := by
  unfold tru
  rw [List.mem_filter, List.mem_map]
  constructor
  · rintro ⟨⟨k, h1, h2⟩, h3⟩
    exact ⟨⟨k, List.mem_range.1 h1, h2.symm⟩, h3⟩
  · rintro ⟨⟨k, h1, h2⟩, h3⟩
    exact ⟨⟨k, List.mem_range.2 h1, h2.symm⟩, h3⟩
theorem tru_succ (T : List Bool) (vs : List Int) (m : Nat) : tru T vs (m + 1) = tru T vs m ++ (if T.getD (xk m vs vs.length) false then [xk m vs vs.length] else []) := by
  unfold tru
  rw [List.range_succ, List.map_append, List.filter_append]
  congr 1
  simp only [List.map_cons, List.map_nil]
  split
  · rename_i h; rw [List.filter_cons_of_pos (by exact h)]; rfl
  · rename_i h; rw [List.filter_cons_of_neg (by exact h)]; rfl
theorem tru_len (T : List Bool) (vs : List Int) (m : Nat) : (tru T vs m).length ≤ m := by
  unfold tru
  exact Nat.le_trans (List.length_filter_le _ _) (by simp)

/-- The literal is true at x. -/
def lt1 (x : Nat) (l : Int) : Bool := x.testBit (lk l) != lb l
theorem lt1_iff {x : Nat} {l : Int} : lt1 x l = false ↔ lf l x := by
  unfold lt1 lf
  cases x.testBit (lk l) <;> cases lb l <;> simp
def rimp (L : List Nat) (cl : List Int) : Bool := L.all fun x => cl.any (lt1 x)

theorem rimp_iff {T : List Bool} {vs : List Int} (hv : Vs vs) (hd : Dep T vs) {cl : List Int} (hs : Sel vs cl) : rimp (tru T vs (2 ^ vs.length)) cl = true ↔ Imp T cl := by
  unfold rimp
  rw [List.all_eq_true]
  constructor
  · intro h x hx hl
    cases ht : T.getD x false
    · rfl
    · exfalso
      have b : ∀ v ∈ vs, (xk (kf x vs) vs vs.length).testBit (kO v) = x.testBit (kO v) := by
        intro v hm
        obtain ⟨j, hj, rfl⟩ := List.getElem_of_mem hm
        have e : vs[j] = vs.getD j 0 := by rw [List.getD_eq_getElem?_getD, List.getElem?_eq_getElem hj]; rfl
        rw [e, xk_at hv _ _ hj (Nat.le_refl _), kf_bit x vs j hj]
      have hlt := xk_lt hv (kf x vs) _ (Nat.le_refl _)
      have t2 := hd _ _ hlt hx b
      rw [ht] at t2
      have := h _ (tru_mem.2 ⟨⟨kf x vs, kf_lt x vs, rfl⟩, t2⟩)
      rw [List.any_eq_true] at this
      obtain ⟨l, hm, hl1⟩ := this
      have hm2 := sel_lv (fun u hu => (hv.rng u hu).1) hs l hm
      have f : lf l (xk (kf x vs) vs vs.length) := by
        have := hl l hm
        unfold lf lk at *
        rw [b _ hm2]; exact this
      rw [lt1_iff.2 f] at hl1
      simp at hl1
  · intro h x hx
    obtain ⟨⟨k, hk, rfl⟩, ht⟩ := tru_mem.1 hx
    rw [List.any_eq_true]
    refine Classical.byContradiction fun hn => ?_
    have := h _ (xk_lt hv k _ (Nat.le_refl _)) (fun l hl => lt1_iff.1 (by
      cases hb : lt1 (xk k vs vs.length) l
      · rfl
      · exact absurd ⟨l, hl, hb⟩ hn))
    rw [ht] at this
    simp at this

theorem fol_dep {ns : List Nd} (o : Ord ns) {vs : List Int} (hvs : ∀ i : Nat, i < ns.length → (nd ns i).1 ∈ vs) {x y : Nat} (h : ∀ v ∈ vs, x.testBit (kO v) = y.testBit (kO v)) (f : Nat) : ∀ {r : Int}, Ref ns r → fol ns f r x = fol ns f r y := by
  induction f with
  | zero => intro r _; rfl
  | succ f ih =>
    intro r hr
    by_cases h0 : r < 0
    · rw [fol_neg h0, fol_neg h0]
    · rw [fol_pos h0, fol_pos h0]
      have hl := o.ref_lo hr (by omega)
      have hh := o.ref_hi hr (by omega)
      obtain ⟨i, rfl⟩ := Int.eq_ofNat_of_zero_le (by omega : 0 ≤ r)
      have hi : i < ns.length := by have := hr.2; omega
      have tt := (o.top_lt hr)
      have te : top ns (i : Int) = (nd ns (i : Int)).1 := top_nat i
      have e : 15 - (nd ns (i : Int)).1.toNat = kO (nd ns (i : Int)).1 := by unfold kO; omega
      rw [e, h _ (hvs i hi)]
      split
      · exact ih hh.1
      · exact ih hl.1

theorem dep_sup {ds : List Nd} {r : Int} (o : Ord ds) (hr : Ref ds r) : Dep (tb ds 16 r) (sup ds) := by
  intro x y hx hy h
  obtain ⟨f, hf⟩ : ∃ f : Nat, r < f := ⟨(r + 1).toNat, by omega⟩
  rw [tab_fol o hr hf, getD_tl _ hx, getD_tl _ hy]
  refine fol_dep o (vs := sup ds) (fun i hi => ?_) h f hr
  have := o i hi
  rw [sup_mem]
  refine ⟨this.1, this.2.1, List.mem_map.2 ⟨ds[i], List.getElem_mem hi, by rw [← nd_of_lt hi]⟩⟩

end Go.Proofs.Ythhogbligfmpdaa.Bd
