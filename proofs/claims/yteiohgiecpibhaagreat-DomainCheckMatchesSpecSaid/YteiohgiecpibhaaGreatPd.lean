/- Taking away, joining, sizes of sets of numbers. No program. -/
import Derived.Test.YteiohgiecpibhaaGreatPc
set_option linter.unusedVariables false
set_option linter.unusedSimpArgs false
namespace Go.Proofs.YteiohgiecpibhaaGreat.Fdm

theorem nr_far {lo : Int} {b : Dm} (h : Nr lo b) : ∀ {i j : Nat}, i < j → j < b.length → (sp b i).2 + 2 ≤ (sp b j).1 := by
  obtain ⟨p, q⟩ := nr_get h
  intro i j hij
  induction j with
  | zero => omega
  | succ j ih =>
    intro hj
    by_cases e : i = j
    · subst e; exact q i hj
    · have := ih (by omega) (by omega); have := q j hj; have := (p j (by omega)).2; omega
theorem mem_at {b : Dm} {v : Int} : memF b v = true ↔ ∃ i, i < b.length ∧ (sp b i).1 ≤ v ∧ v ≤ (sp b i).2 := by
  rw [mem_iff]
  constructor
  · rintro ⟨s, hs, h⟩; obtain ⟨i, hi, rfl⟩ := mem_sp hs; exact ⟨i, hi, h⟩
  · rintro ⟨i, hi, h⟩; exact ⟨_, sp_mem hi, h⟩
theorem nr_end {lo : Int} {d : Dm} (h : Nr lo d) {t : Sp} (ht : t ∈ d) : memF d t.2 = true := by
  obtain ⟨i, hi, rfl⟩ := mem_sp ht
  exact mem_iff.2 ⟨_, sp_mem hi, ((nr_get h).1 i hi).2, Int.le_refl _⟩
structure CutP (b : Dm) (high lo : Int) (out : Dm) (low : Int) (r : Dm × Int × Nat) : Prop where
  nr : Nr lo r.1
  far : ∀ t ∈ r.1, t.2 + 2 ≤ r.2.1
  ge : low ≤ r.2.1
  mem : ∀ v, memF r.1 v = true ↔ memF out v = true ∨ (low ≤ v ∧ v < r.2.1 ∧ v ≤ high ∧ ¬ memF b v = true)
  rest : ∀ v, r.2.1 ≤ v → v ≤ high → ¬ memF b v = true
theorem cut_ok {b : Dm} {high lo lb : Int} (hb : Nr lb b) : ∀ (f k : Nat) (low : Int) (out : Dm), b.length - k ≤ f → (∀ i, i < k → i < b.length → (sp b i).2 < low) → Nr lo out → (∀ t ∈ out, t.2 + 2 ≤ low) → lo ≤ low → CutP b high lo out low (cutN b high f k low out) := by
  have stop : ∀ (k : Nat) (low : Int) (out : Dm), ¬ (k < b.length ∧ (sp b k).1 ≤ high) → (∀ i, i < k → i < b.length → (sp b i).2 < low) → Nr lo out → (∀ t ∈ out, t.2 + 2 ≤ low) → CutP b high lo out low (out, low, k) := fun k low out hs hk hn hf => by
    refine ⟨hn, hf, Int.le_refl _, fun v => ⟨.inl, ?_⟩, fun v h1 h2 h3 => ?_⟩
    · rintro (h | ⟨h1, h2, _⟩)
      · exact h
      · exact absurd (Int.lt_of_le_of_lt h1 h2) (Int.lt_irrefl _)
    · obtain ⟨i, hi, h4, h5⟩ := mem_at.1 h3
      have h1 : low ≤ v := h1
      by_cases q : i < k
      · have := hk i q hi; omega
      · by_cases e : i = k
        · subst e; exact hs ⟨hi, by omega⟩
        · have := nr_far hb (show k < i by omega) hi; have := ((nr_get hb).1 k (by omega)).2; exact hs ⟨by omega, by omega⟩
  intro f
  induction f with
  | zero => intro k low out hf hk hn hfar hlo; exact stop k low out (by omega) hk hn hfar
  | succ f ih =>
    intro k low out hf hk hn hfar hlo
    simp only [cutN]
    by_cases hc : k < b.length ∧ (sp b k).1 ≤ high
    · rw [if_pos hc]
      have hkk := ((nr_get hb).1 k hc.1).2
      by_cases hl : (sp b k).2 < low
      · rw [if_pos hl]
        exact ih (k + 1) low out (by omega) (fun i hi h2 => if e : i = k then e ▸ hl else hk i (by omega) h2) hn hfar hlo
      · rw [if_neg hl]
        have nb : ∀ v, low ≤ v → v ≤ (sp b k).2 → (memF b v = true ↔ (sp b k).1 ≤ v) := fun v h1 h2 => by
          constructor
          · intro hm
            obtain ⟨i, hi, h4, h5⟩ := mem_at.1 hm
            by_cases q : i < k
            · have := hk i q hi; omega
            · by_cases e : i = k
              · subst e; exact h4
              · have := nr_far hb (show k < i by omega) hi; omega
          · intro h3; exact mem_at.2 ⟨k, hc.1, h3, h2⟩
        have hk2 : ∀ i, i < k + 1 → i < b.length → (sp b i).2 < (sp b k).2 + 1 := fun i hi h2 => by
          by_cases e : i = k
          · subst e; omega
          · have := hk i (by omega) h2; omega
        by_cases hg : low < (sp b k).1
        · rw [if_pos hg]
          have I := ih (k + 1) ((sp b k).2 + 1) (out ++ [(low, (sp b k).1 - 1)]) (by omega) hk2 (nr_snoc hn hfar hlo (by show low ≤ (sp b k).1 - 1; omega)) (fun t ht => by
            rcases List.mem_append.1 ht with ht | ht
            · have := hfar t ht; omega
            · simp at ht; subst ht; show (sp b k).1 - 1 + 2 ≤ _; omega) (by omega)
          refine ⟨I.nr, I.far, by have := I.ge; omega, fun v => ?_, I.rest⟩
          rw [I.mem, mem_app, mem_cons]
          simp only [mem_nil, Bool.false_eq_true, or_false]
          have l2 := I.ge
          constructor
          · rintro ((h | h) | h)
            · exact .inl h
            · have h1 : low ≤ v := h.1
              have h2 : v ≤ (sp b k).1 - 1 := h.2
              exact .inr ⟨h1, by omega, by omega, fun m => by have := (nb v h1 (by omega)).1 m; omega⟩
            · exact .inr ⟨by omega, h.2⟩
          · rintro (h | ⟨h1, h2, h3, h4⟩)
            · exact .inl (.inl h)
            · by_cases q : v ≤ (sp b k).2
              · exact .inl (.inr ⟨h1, by have := mt (nb v h1 q).2 h4; show v ≤ (sp b k).1 - 1; omega⟩)
              · exact .inr ⟨by omega, h2, h3, h4⟩
        · rw [if_neg hg]
          have I := ih (k + 1) ((sp b k).2 + 1) out (by omega) hk2 hn (fun t ht => by have := hfar t ht; omega) (by omega)
          refine ⟨I.nr, I.far, by have := I.ge; omega, fun v => ?_, I.rest⟩
          rw [I.mem]
          have l2 := I.ge
          constructor
          · rintro (h | h)
            · exact .inl h
            · exact .inr ⟨by omega, h.2⟩
          · rintro (h | ⟨h1, h2, h3, h4⟩)
            · exact .inl h
            · by_cases q : v ≤ (sp b k).2
              · exact absurd ((nb v h1 q).2 (by omega)) h4
              · exact .inr ⟨by omega, h2, h3, h4⟩
    · rw [if_neg hc]; exact stop k low out hc hk hn hfar
theorem back_ok {b : Dm} {lb low : Int} (hb : Nr lb b) : ∀ k, k ≤ b.length → ∀ i, i < backK b low k → i < b.length → (sp b i).2 < low
  | 0, _, i, hi, _ => by simp [backK] at hi
  | k + 1, hk, i, hi, hl => by
    unfold backK at hi
    by_cases h : low ≤ (sp b k).2
    · rw [if_pos h] at hi; exact back_ok hb k (by omega) i hi hl
    · rw [if_neg h] at hi
      by_cases e : i = k
      · subst e; omega
      · have := nr_far hb (show i < k by omega) (by omega); have := ((nr_get hb).1 k (by omega)).2; omega
theorem cut_le (b : Dm) (high : Int) : ∀ (f k : Nat) (low : Int) (out : Dm), k ≤ b.length → (cutN b high f k low out).2.2 ≤ b.length
  | 0, _, _, _, h => h
  | f + 1, k, low, out, h => by
    simp only [cutN]
    by_cases hc : k < b.length ∧ (sp b k).1 ≤ high
    · rw [if_pos hc]
      by_cases hl : (sp b k).2 < low
      · rw [if_pos hl]; exact cut_le b high f _ _ _ (by omega)
      · rw [if_neg hl]; exact cut_le b high f _ _ _ (by omega)
    · rw [if_neg hc]; exact h
theorem backK_le2 (b : Dm) (low : Int) : ∀ k, backK b low k ≤ k
  | 0 => Nat.le_refl _
  | k + 1 => by unfold backK; split; exact Nat.le_succ_of_le (backK_le2 b low k); exact Nat.le_refl _
theorem less_ok {b : Dm} {lb lo : Int} (hb : Nr lb b) (s : Sp) (o : Dm × Nat) (hk : o.2 ≤ b.length) (hn : Nr lo o.1) (hf : ∀ t ∈ o.1, t.2 + 2 ≤ s.1) (h1 : lo ≤ s.1) (h2 : s.1 ≤ s.2) :
    Nr lo (lessS b s o).1 ∧ (lessS b s o).2 ≤ b.length ∧ (∀ t ∈ (lessS b s o).1, t.2 ≤ s.2) ∧ ∀ v, memF (lessS b s o).1 v = true ↔ memF o.1 v = true ∨ ((s.1 ≤ v ∧ v ≤ s.2) ∧ ¬ memF b v = true) := by
  have bl := backK_le2 b s.1 o.2
  have C := cut_ok (high := s.2) (lo := lo) hb (b.length - backK b s.1 o.2) (backK b s.1 o.2) s.1 o.1 (Nat.le_refl _) (back_ok hb o.2 hk) hn hf h1
  have L := cut_le b s.2 (b.length - backK b s.1 o.2) (backK b s.1 o.2) s.1 o.1 (by omega)
  have e : lessS b s o = (if (cutN b s.2 (b.length - backK b s.1 o.2) (backK b s.1 o.2) s.1 o.1).2.1 ≤ s.2 then (cutN b s.2 (b.length - backK b s.1 o.2) (backK b s.1 o.2) s.1 o.1).1 ++ [((cutN b s.2 (b.length - backK b s.1 o.2) (backK b s.1 o.2) s.1 o.1).2.1, s.2)] else (cutN b s.2 (b.length - backK b s.1 o.2) (backK b s.1 o.2) s.1 o.1).1, (cutN b s.2 (b.length - backK b s.1 o.2) (backK b s.1 o.2) s.1 o.1).2.2) := rfl
  rw [e]
  generalize cutN b s.2 (b.length - backK b s.1 o.2) (backK b s.1 o.2) s.1 o.1 = r at C L
  obtain ⟨r1, low, k⟩ := r
  have cl : s.1 ≤ low := C.ge
  have cm : ∀ v, memF r1 v = true ↔ memF o.1 v = true ∨ (s.1 ≤ v ∧ v < low ∧ v ≤ s.2 ∧ ¬ memF b v = true) := C.mem
  have cr : ∀ v, low ≤ v → v ≤ s.2 → ¬ memF b v = true := C.rest
  have om : ∀ v, memF o.1 v = true → v ≤ s.2 := fun v m => by
    obtain ⟨t, ht, h⟩ := mem_iff.1 m; have := hf t ht; omega
  have nr : Nr lo r1 := C.nr
  have ends : ∀ t ∈ r1, t.2 ≤ s.2 := fun t ht => by
    rcases (cm t.2).1 (nr_end nr ht) with h | h
    · exact om _ h
    · exact h.2.2.1
  show Nr lo (if low ≤ s.2 then r1 ++ [(low, s.2)] else r1) ∧ k ≤ b.length ∧ (∀ t ∈ (if low ≤ s.2 then r1 ++ [(low, s.2)] else r1), t.2 ≤ s.2) ∧ _
  by_cases q : low ≤ s.2
  · simp only [if_pos q]
    refine ⟨nr_snoc nr C.far (by show lo ≤ low; omega) q, L, fun t ht => ?_, fun v => ?_⟩
    · rcases List.mem_append.1 ht with ht | ht
      · exact ends t ht
      · simp at ht; subst ht; exact Int.le_refl _
    · rw [mem_app, mem_cons, cm]
      simp only [mem_nil, Bool.false_eq_true, or_false]
      constructor
      · rintro ((h | h) | h)
        · exact .inl h
        · exact .inr ⟨⟨h.1, h.2.2.1⟩, h.2.2.2⟩
        · have h1 : low ≤ v := h.1
          exact .inr ⟨⟨by omega, h.2⟩, cr v h1 h.2⟩
      · rintro (h | ⟨h, m⟩)
        · exact .inl (.inl h)
        · by_cases z : v < low
          · exact .inl (.inr ⟨h.1, z, h.2, m⟩)
          · exact .inr ⟨by show low ≤ v; omega, h.2⟩
  · simp only [if_neg q]
    refine ⟨nr, L, ends, fun v => ?_⟩
    rw [cm]
    constructor
    · rintro (h | h)
      · exact .inl h
      · exact .inr ⟨⟨h.1, h.2.2.1⟩, h.2.2.2⟩
    · rintro (h | ⟨h, m⟩)
      · exact .inl h
      · exact .inr ⟨h.1, by omega, h.2, m⟩
theorem take_mem (a : Dm) {n : Nat} (hn : n < a.length) (v : Int) : memF (a.take (n + 1)) v = true ↔ memF (a.take n) v = true ∨ ((sp a n).1 ≤ v ∧ v ≤ (sp a n).2) := by
  have e : a.take (n + 1) = a.take n ++ [sp a n] := by
    rw [List.take_add_one, List.getElem?_eq_getElem hn]
    simp only [Option.toList]
    congr 2
    unfold sp; rw [List.getD_eq_getElem?_getD, List.getElem?_eq_getElem hn]; rfl
  rw [e, mem_app, mem_cons]; simp [mem_nil]
theorem lessTo_ok {a b : Dm} {la lb : Int} (ha : Nr la a) (hb : Nr lb b) : ∀ n, n ≤ a.length →
    Nr la (lessTo a b n).1 ∧ (lessTo a b n).2 ≤ b.length ∧ (∀ t ∈ (lessTo a b n).1, 0 < n ∧ t.2 ≤ (sp a (n - 1)).2) ∧ ∀ v, memF (lessTo a b n).1 v = true ↔ memF (a.take n) v = true ∧ ¬ memF b v = true
  | 0, _ => ⟨trivial, Nat.zero_le _, fun t ht => by simp [lessTo] at ht, fun v => by simp [lessTo, memF]⟩
  | n + 1, hn => by
    obtain ⟨i1, i2, i3, i4⟩ := lessTo_ok ha hb n (by omega)
    have g := (nr_get ha).1 n (by omega)
    obtain ⟨l1, l2, l3, l4⟩ := less_ok hb (sp a n) (lessTo a b n) i2 i1 (fun t ht => by
      obtain ⟨h0, h⟩ := i3 t ht
      have := nr_far ha (show n - 1 < n by omega) (by omega); omega) g.1 g.2
    refine ⟨l1, l2, fun t ht => ⟨Nat.succ_pos _, by rw [Nat.add_sub_cancel]; exact l3 t ht⟩, fun v => ?_⟩
    rw [show lessTo a b (n + 1) = lessS b (sp a n) (lessTo a b n) from rfl, l4, i4, take_mem a (by omega)]
    constructor
    · rintro (⟨h, m⟩ | ⟨h, m⟩)
      · exact ⟨.inl h, m⟩
      · exact ⟨.inr h, m⟩
    · rintro ⟨h | h, m⟩
      · exact .inl ⟨h, m⟩
      · exact .inr ⟨h, m⟩
theorem minus_ok {a b : Dm} (ha : Ok a) (hb : Ok b) : Ok (minusF a b) ∧ ∀ v, memF (minusF a b) v = true ↔ memF a v = true ∧ ¬ memF b v = true := by
  obtain ⟨a1, a2⟩ := ok_nr ha
  obtain ⟨b1, b2⟩ := ok_nr hb
  obtain ⟨h1, _, _, h4⟩ := lessTo_ok a1 b1 a.length (Nat.le_refl _)
  rw [List.take_length] at h4
  exact ⟨nr_ok h1 fun s hs => up_mem a2 ((h4 _).1 (nr_end h1 hs)).1, h4⟩

/-- Joining. -/
def jnStep (out : Dm) (s : Sp) : Dm := match out.getLast? with
  | some t => if s.1 ≤ t.2 + 1 then out.dropLast ++ [(t.1, max t.2 s.2)] else out ++ [s]
  | none => [s]
def jnF (l : Dm) : Dm := l.foldl jnStep []
theorem jn_snoc (l : Dm) (s : Sp) : jnF (l ++ [s]) = jnStep (jnF l) s := by simp [jnF]
theorem jnStep_nil (s : Sp) : jnStep [] s = [s] := rfl
theorem jnStep_join (d : Dm) (t s : Sp) (h : s.1 ≤ t.2 + 1) : jnStep (d ++ [t]) s = d ++ [(t.1, max t.2 s.2)] := by simp [jnStep, h]
theorem jnStep_more (d : Dm) (t s : Sp) (h : ¬ s.1 ≤ t.2 + 1) : jnStep (d ++ [t]) s = d ++ [t] ++ [s] := by simp [jnStep, h]
theorem jn_ok (lo : Int) : ∀ (n : Nat) (l : Dm), l.length = n → List.Pairwise (fun x y : Sp => x.1 ≤ y.1) l → (∀ s ∈ l, lo ≤ s.1 ∧ s.1 ≤ s.2) →
    Nr lo (jnF l) ∧ (∀ v, memF (jnF l) v = true ↔ memF l v = true) ∧ ∀ t ∈ jnF l, ∃ u ∈ l, t.1 = u.1
  | 0, l, hn, _, _ => by
    obtain rfl := List.length_eq_zero_iff.1 hn
    exact ⟨trivial, fun v => Iff.rfl, fun t ht => by simp [jnF] at ht⟩
  | n + 1, l, hn, hp, hl => by
    have hne : l ≠ [] := by rintro rfl; simp at hn
    obtain ⟨l', s, rfl⟩ : ∃ l' s, l = l' ++ [s] := ⟨l.dropLast, l.getLast hne, (List.dropLast_concat_getLast hne).symm⟩
    rw [List.pairwise_append] at hp
    obtain ⟨i1, i2, i3⟩ := jn_ok lo n l' (by simpa using hn) hp.1 (fun x hx => hl x (by simp [hx]))
    have hs := hl s (by simp)
    have before : ∀ t ∈ jnF l', t.1 ≤ s.1 := fun t ht => by
      obtain ⟨u, hu, e⟩ := i3 t ht
      rw [e]; exact hp.2.2 u hu s (by simp)
    rw [jn_snoc]
    have mm : ∀ v, memF (l' ++ [s]) v = true ↔ memF (jnF l') v = true ∨ (s.1 ≤ v ∧ v ≤ s.2) := fun v => by rw [mem_app, mem_cons, i2]; simp [mem_nil]
    by_cases h0 : jnF l' = []
    · rw [h0] at mm ⊢
      rw [jnStep_nil]
      exact ⟨⟨hs.1, hs.2, trivial⟩, fun v => by rw [mm, mem_cons]; simp [mem_nil], fun t ht => ⟨s, by simp, by simp at ht; rw [ht]⟩⟩
    · obtain ⟨d, t, hd⟩ : ∃ d t, jnF l' = d ++ [t] := ⟨_, _, (List.dropLast_concat_getLast h0).symm⟩
      rw [hd] at i1 i2 i3 before mm ⊢
      obtain ⟨n1, n2, n3, n4⟩ := nr_init i1
      have bt := before t (by simp)
      by_cases hj : s.1 ≤ t.2 + 1
      · rw [jnStep_join d t s hj]
        refine ⟨nr_snoc n1 n2 n3 (by show t.1 ≤ max t.2 s.2; omega), fun v => ?_, fun x hx => ?_⟩
        · rw [mm, mem_app, mem_app, mem_cons, mem_cons]
          simp only [mem_nil, Bool.false_eq_true, or_false]
          show memF d v = true ∨ (t.1 ≤ v ∧ v ≤ max t.2 s.2) ↔ _
          constructor
          · rintro (h | h)
            · exact .inl (.inl h)
            · by_cases q : v ≤ t.2
              · exact .inl (.inr ⟨h.1, q⟩)
              · exact .inr ⟨by omega, by omega⟩
          · rintro ((h | h) | h)
            · exact .inl h
            · exact .inr ⟨h.1, by omega⟩
            · exact .inr ⟨by omega, by omega⟩
        · rcases List.mem_append.1 hx with hx | hx
          · obtain ⟨u, hu, e⟩ := i3 x (by simp [hx]); exact ⟨u, by simp [hu], e⟩
          · simp at hx; subst hx
            obtain ⟨u, hu, e⟩ := i3 t (by simp); exact ⟨u, by simp [hu], e⟩
      · rw [jnStep_more d t s hj]
        refine ⟨nr_snoc i1 (fun x hx => ?_) hs.1 hs.2, fun v => ?_, fun x hx => ?_⟩
        · rcases List.mem_append.1 hx with hx | hx
          · have := n2 x hx; omega
          · simp at hx; subst hx; omega
        · rw [mm, mem_app, mem_cons]; simp [mem_nil]
        · rcases List.mem_append.1 hx with hx | hx
          · obtain ⟨u, hu, e⟩ := i3 x hx; exact ⟨u, by simp [hu], e⟩
          · simp at hx; subst hx; exact ⟨x, by simp, rfl⟩
/-- Whatever order the spans with the same lower end are in. -/
theorem join_ok {a b l : Dm} (ha : Ok a) (hb : Ok b) (hp : l.Perm (a ++ b)) (hs : List.Pairwise (fun x y : Sp => x.1 ≤ y.1) l) :
    Ok (jnF l) ∧ ∀ v, memF (jnF l) v = true ↔ memF a v = true ∨ memF b v = true := by
  obtain ⟨a1, a2⟩ := ok_nr ha
  obtain ⟨b1, b2⟩ := ok_nr hb
  have bd : ∀ s ∈ l, -16384 ≤ s.1 ∧ s.1 ≤ s.2 := fun s h => by
    rcases List.mem_append.1 (hp.mem_iff.1 h) with h | h
    · obtain ⟨i, hi, rfl⟩ := mem_sp h; exact (nr_get a1).1 i hi
    · obtain ⟨i, hi, rfl⟩ := mem_sp h; exact (nr_get b1).1 i hi
  obtain ⟨h1, h2, _⟩ := jn_ok (-16384) l.length l rfl hs bd
  have m : ∀ v, memF (jnF l) v = true ↔ memF a v = true ∨ memF b v = true := fun v => by
    rw [h2, ← mem_app, mem_iff, mem_iff]
    exact ⟨fun ⟨s, h, k⟩ => ⟨s, hp.mem_iff.1 h, k⟩, fun ⟨s, h, k⟩ => ⟨s, hp.mem_iff.2 h, k⟩⟩
  refine ⟨nr_ok h1 fun s hs => ?_, m⟩
  rcases (m s.2).1 (nr_end h1 hs) with h | h
  · exact up_mem a2 h
  · exact up_mem b2 h

/-- The numbers of a set. -/
def upTo (s : Sp) : List Int := (List.range (s.2 - s.1 + 1).toNat).map fun (i : Nat) => s.1 + (i : Int)
def valsF (d : Dm) : List Int := d.flatMap upTo
theorem mem_upTo {s : Sp} {v : Int} : v ∈ upTo s ↔ s.1 ≤ v ∧ v ≤ s.2 := by
  unfold upTo
  rw [List.mem_map]
  constructor
  · rintro ⟨i, hi, rfl⟩; have := List.mem_range.1 hi; omega
  · rintro ⟨a, b⟩; exact ⟨(v - s.1).toNat, List.mem_range.2 (by omega), by omega⟩
theorem mem_vals {d : Dm} {v : Int} : v ∈ valsF d ↔ memF d v = true := by
  unfold valsF
  rw [List.mem_flatMap, mem_iff]
  exact ⟨fun ⟨s, h, k⟩ => ⟨s, h, mem_upTo.1 k⟩, fun ⟨s, h, k⟩ => ⟨s, h, mem_upTo.2 k⟩⟩
theorem size_cons (s : Sp) (d : Dm) : sizeF (s :: d) = (s.2 - s.1 + 1) + sizeF d := by
  unfold sizeF; rw [List.foldl_cons, sizeF_from]; show 0 + _ + sizeF d = _ + sizeF d; omega
theorem vals_len : ∀ {lo : Int} {d : Dm}, Nr lo d → ((valsF d).length : Int) = sizeF d
  | _, [], _ => rfl
  | lo, s :: d, ⟨a, b, c⟩ => by
    have ih := vals_len c
    rw [size_cons, ← ih]
    simp [valsF, upTo]
    omega
theorem vals_up : ∀ {lo : Int} {d : Dm}, Nr lo d → List.Pairwise (· < ·) (valsF d)
  | _, [], _ => List.Pairwise.nil
  | lo, s :: d, ⟨a, b, c⟩ => by
    have ih := vals_up c
    show List.Pairwise _ (upTo s ++ valsF d)
    rw [List.pairwise_append]
    refine ⟨?_, ih, fun x hx y hy => ?_⟩
    · unfold upTo; rw [List.pairwise_map]; exact List.pairwise_lt_range.imp fun h => by omega
    · have := (mem_upTo.1 hx).2; have := nr_mem c (mem_vals.1 hy); omega
theorem up_ext : ∀ {l m : List Int}, List.Pairwise (· < ·) l → List.Pairwise (· < ·) m → (∀ v, v ∈ l ↔ v ∈ m) → l = m
  | [], [], _, _, _ => rfl
  | [], y :: m, _, _, h => by have := (h y).2 (by simp); simp at this
  | x :: l, [], _, _, h => by have := (h x).1 (by simp); simp at this
  | x :: l, y :: m, h1, h2, h => by
    rw [List.pairwise_cons] at h1 h2
    have e : x = y := by
      have a := (h x).1 (by simp)
      have b := (h y).2 (by simp)
      rcases List.mem_cons.1 a with a | a
      · exact a
      · rcases List.mem_cons.1 b with b | b
        · exact b.symm
        · have := h1.1 y b; have := h2.1 x a; omega
    subst e
    rw [up_ext h1.2 h2.2 fun v => ?_]
    constructor
    · intro hv
      rcases List.mem_cons.1 ((h v).1 (List.mem_cons_of_mem _ hv)) with q | q
      · subst q; have := h1.1 v hv; omega
      · exact q
    · intro hv
      rcases List.mem_cons.1 ((h v).2 (List.mem_cons_of_mem _ hv)) with q | q
      · subst q; have := h2.1 v hv; omega
      · exact q
theorem vals_eq_of {R : List Int} (hu : List.Pairwise (· < ·) R) (hm : ∀ v, v ∈ R ↔ -16384 ≤ v ∧ v ≤ 16384) {d : Dm} (h : Ok d) : valsF d = R.filter (memF d) := by
  obtain ⟨n, u⟩ := ok_nr h
  refine up_ext (vals_up n) (hu.filter _) fun v => ?_
  rw [mem_vals, List.mem_filter, hm]
  exact ⟨fun m => ⟨⟨nr_mem n m, up_mem u m⟩, m⟩, fun m => m.2⟩
theorem filter_add (p q : Int → Bool) : ∀ R : List Int, (R.filter fun v => p v || q v).length + (R.filter fun v => p v && q v).length = (R.filter p).length + (R.filter q).length
  | [] => rfl
  | v :: R => by
    have ih := filter_add p q R
    cases hp : p v <;> cases hq : q v <;> simp [List.filter_cons, hp, hq] <;> omega
theorem filter_sub (p q : Int → Bool) : ∀ R : List Int, (R.filter fun v => p v && !q v).length + (R.filter fun v => p v && q v).length = (R.filter p).length
  | [] => rfl
  | v :: R => by
    have ih := filter_sub p q R
    cases hp : p v <;> cases hq : q v <;> simp [List.filter_cons, hp, hq] <;> omega
theorem size_eq_of {R : List Int} (hu : List.Pairwise (· < ·) R) (hm : ∀ v, v ∈ R ↔ -16384 ≤ v ∧ v ≤ 16384) {d : Dm} (h : Ok d) : sizeF d = ((R.filter (memF d)).length : Int) := by
  rw [← vals_len (ok_nr h).1, vals_eq_of hu hm h]
theorem sizes_add {a b j m : Dm} (ha : Ok a) (hb : Ok b) (hj : Ok j) (hm : Ok m) (ej : ∀ v, memF j v = true ↔ memF a v = true ∨ memF b v = true) (em : ∀ v, memF m v = true ↔ memF a v = true ∧ memF b v = true) : sizeF j + sizeF m = sizeF a + sizeF b := by
  obtain ⟨R, hR⟩ : ∃ R, R = rng := ⟨_, rfl⟩
  have hu : List.Pairwise (· < ·) R := hR ▸ rng_up
  have hr : ∀ v, v ∈ R ↔ -16384 ≤ v ∧ v ≤ 16384 := hR ▸ fun v => mem_rng
  rw [size_eq_of hu hr ha, size_eq_of hu hr hb, size_eq_of hu hr hj, size_eq_of hu hr hm]
  have q := filter_add (memF a) (memF b) R
  have e1 : memF j = fun v => memF a v || memF b v := funext fun v => by have := ej v; cases x : memF j v <;> cases y : memF a v <;> cases z : memF b v <;> simp_all
  have e2 : memF m = fun v => memF a v && memF b v := funext fun v => by have := em v; cases x : memF m v <;> cases y : memF a v <;> cases z : memF b v <;> simp_all
  rw [e1, e2]; omega
theorem sizes_sub {a b d m : Dm} (ha : Ok a) (hd : Ok d) (hm : Ok m) (ed : ∀ v, memF d v = true ↔ memF a v = true ∧ ¬ memF b v = true) (em : ∀ v, memF m v = true ↔ memF a v = true ∧ memF b v = true) : sizeF d + sizeF m = sizeF a := by
  obtain ⟨R, hR⟩ : ∃ R, R = rng := ⟨_, rfl⟩
  have hu : List.Pairwise (· < ·) R := hR ▸ rng_up
  have hr : ∀ v, v ∈ R ↔ -16384 ≤ v ∧ v ≤ 16384 := hR ▸ fun v => mem_rng
  rw [size_eq_of hu hr ha, size_eq_of hu hr hd, size_eq_of hu hr hm]
  have q := filter_sub (memF a) (memF b) R
  have e1 : memF d = fun v => memF a v && !memF b v := funext fun v => by have := ed v; cases x : memF d v <;> cases y : memF a v <;> cases z : memF b v <;> simp_all
  have e2 : memF m = fun v => memF a v && memF b v := funext fun v => by have := em v; cases x : memF m v <;> cases y : memF a v <;> cases z : memF b v <;> simp_all
  rw [e1, e2]; omega
theorem size_nil_iff {lo : Int} {d : Dm} (h : Nr lo d) : sizeF d = 0 ↔ d = [] := by
  cases d with
  | nil => exact ⟨fun _ => rfl, fun _ => rfl⟩
  | cons s d =>
    obtain ⟨a, b, c⟩ := h
    have := vals_len c
    rw [size_cons]
    constructor
    · intro; omega
    · intro h; cases h
end Go.Proofs.YteiohgiecpibhaaGreat.Fdm
