/- Sets of numbers as rising spans with gaps: one set has one list of spans; what meeting, taking away and joining give. No program. -/
import Derived.Test.YteiohgiecpibhaaGreatPa
set_option linter.unusedVariables false
set_option linter.unusedSimpArgs false
namespace Go.Proofs.YteiohgiecpibhaaGreat.Fdm

/-- Rising spans with gaps, from lo on. -/
def Nr : Int → Dm → Prop
  | _, [] => True
  | lo, s :: d => lo ≤ s.1 ∧ s.1 ≤ s.2 ∧ Nr (s.2 + 2) d
theorem Nr.mono : ∀ {lo lo2 : Int} {d : Dm}, Nr lo d → lo2 ≤ lo → Nr lo2 d
  | _, _, [], _, _ => trivial
  | _, _, _ :: _, h, k => ⟨Int.le_trans k h.1, h.2⟩
theorem sp_zero (s : Sp) (d : Dm) : sp (s :: d) 0 = s := rfl
theorem sp_succ (s : Sp) (d : Dm) (i : Nat) : sp (s :: d) (i + 1) = sp d i := by simp [sp]
theorem nr_of : ∀ {lo : Int} (d : Dm), (0 < d.length → lo ≤ (sp d 0).1) → (∀ i, i < d.length → (sp d i).1 ≤ (sp d i).2) → (∀ i, i + 1 < d.length → (sp d i).2 + 2 ≤ (sp d (i + 1)).1) → Nr lo d
  | _, [], _, _, _ => trivial
  | lo, s :: d, h0, h1, h2 => by
    refine ⟨h0 (by simp), h1 0 (by simp), nr_of d (fun h => ?_) (fun i hi => ?_) (fun i hi => ?_)⟩
    · have := h2 0 (by simpa using h); rwa [sp_zero, sp_succ] at this
    · have := h1 (i + 1) (by simpa using hi); rwa [sp_succ] at this
    · have := h2 (i + 1) (by simpa using hi); rwa [sp_succ, sp_succ] at this
theorem nr_get : ∀ {lo : Int} {d : Dm}, Nr lo d → (∀ i, i < d.length → lo ≤ (sp d i).1 ∧ (sp d i).1 ≤ (sp d i).2) ∧ (∀ i, i + 1 < d.length → (sp d i).2 + 2 ≤ (sp d (i + 1)).1)
  | _, [], _ => ⟨fun i hi => absurd hi (Nat.not_lt_zero _), fun i hi => absurd hi (Nat.not_lt_zero _)⟩
  | lo, s :: d, ⟨a, b, c⟩ => by
    obtain ⟨p, q⟩ := nr_get c
    refine ⟨fun i hi => ?_, fun i hi => ?_⟩
    · cases i with
      | zero => exact ⟨a, b⟩
      | succ i => rw [sp_succ]; have := p i (by simpa using hi); omega
    · cases i with
      | zero => rw [sp_zero, sp_succ]; exact (p 0 (by simpa using hi)).1
      | succ i => rw [sp_succ, sp_succ]; exact q i (by simpa using hi)
def Up (d : Dm) : Prop := ∀ s ∈ d, s.2 ≤ 16384
theorem sp_mem {d : Dm} {i : Nat} (h : i < d.length) : sp d i ∈ d := by
  unfold sp; rw [List.getD_eq_getElem?_getD, List.getElem?_eq_getElem h]; exact List.getElem_mem h
theorem mem_sp {d : Dm} {s : Sp} (h : s ∈ d) : ∃ i, i < d.length ∧ sp d i = s := by
  obtain ⟨i, hi, rfl⟩ := List.getElem_of_mem h
  exact ⟨i, hi, by unfold sp; rw [List.getD_eq_getElem?_getD, List.getElem?_eq_getElem hi]; rfl⟩
theorem ok_nr {d : Dm} (h : Ok d) : Nr (-16384) d ∧ Up d := by
  refine ⟨nr_of d (fun h0 => (spanF_zero (h 0 h0)).1) (fun i hi => (spanF_zero (h i hi)).2.2.1) (fun i hi => ?_), fun s hs => ?_⟩
  · have := (spanF_zero (h (i + 1) hi)).2.2.2 (by omega); rw [Nat.add_sub_cancel] at this; omega
  · obtain ⟨i, hi, rfl⟩ := mem_sp hs; exact (spanF_zero (h i hi)).2.1
theorem nr_ok {d : Dm} (h : Nr (-16384) d) (u : Up d) : Ok d := fun i hi => by
  obtain ⟨p, q⟩ := nr_get h
  have a := p i hi
  have b := u _ (sp_mem hi)
  unfold spanF
  rw [if_neg (by omega), if_neg]
  rintro ⟨h0, k⟩
  have := q (i - 1) (by omega)
  rw [show i - 1 + 1 = i from by omega] at this
  omega
theorem mem_cons (s : Sp) (d : Dm) (v : Int) : memF (s :: d) v = true ↔ (s.1 ≤ v ∧ v ≤ s.2) ∨ memF d v = true := by simp [memF]
theorem mem_nil (v : Int) : memF [] v = false := rfl
theorem mem_app (d e : Dm) (v : Int) : memF (d ++ e) v = true ↔ memF d v = true ∨ memF e v = true := by simp [memF]
theorem mem_iff {d : Dm} {v : Int} : memF d v = true ↔ ∃ s ∈ d, s.1 ≤ v ∧ v ≤ s.2 := by simp [memF]
theorem nr_mem : ∀ {lo : Int} {d : Dm} {v : Int}, Nr lo d → memF d v = true → lo ≤ v
  | _, [], _, _, h => by simp [memF] at h
  | lo, s :: d, v, ⟨a, b, c⟩, h => by
    rcases (mem_cons s d v).1 h with h | h
    · omega
    · have := nr_mem c h; omega
theorem up_mem {d : Dm} {v : Int} (u : Up d) (h : memF d v = true) : v ≤ 16384 := by
  obtain ⟨s, hs, h⟩ := mem_iff.1 h
  have := u s hs; omega
theorem nr_ext : ∀ {lo : Int} {a b : Dm}, Nr lo a → Nr lo b → (∀ v, memF a v = true ↔ memF b v = true) → a = b
  | _, [], [], _, _, _ => rfl
  | _, [], t :: b, _, ⟨_, k, _⟩, h => by
    have := (h t.1).2 ((mem_cons _ _ _).2 (.inl ⟨Int.le_refl _, k⟩)); simp [memF] at this
  | _, s :: a, [], ⟨_, k, _⟩, _, h => by
    have := (h s.1).1 ((mem_cons _ _ _).2 (.inl ⟨Int.le_refl _, k⟩)); simp [memF] at this
  | lo, s :: a, t :: b, ⟨p1, p2, p3⟩, ⟨q1, q2, q3⟩, h => by
    have A : ∀ v, memF a v = true → s.2 + 2 ≤ v := fun v => nr_mem p3
    have B : ∀ v, memF b v = true → t.2 + 2 ≤ v := fun v => nr_mem q3
    have h' : ∀ v, ((s.1 ≤ v ∧ v ≤ s.2) ∨ memF a v = true) ↔ ((t.1 ≤ v ∧ v ≤ t.2) ∨ memF b v = true) := fun v => by
      rw [← mem_cons, ← mem_cons]; exact h v
    have e1 : s.1 = t.1 := by
      have x := (h' s.1).1 (.inl ⟨Int.le_refl _, p2⟩)
      have y := (h' t.1).2 (.inl ⟨Int.le_refl _, q2⟩)
      have x' : t.1 ≤ s.1 := by rcases x with x | x; omega; have := B _ x; omega
      have y' : s.1 ≤ t.1 := by rcases y with y | y; omega; have := A _ y; omega
      omega
    have e2 : s.2 = t.2 := by
      have x : ¬ s.2 < t.2 := fun hlt => by
        have := (h' (s.2 + 1)).2 (.inl ⟨by omega, by omega⟩)
        rcases this with z | z
        · omega
        · have := A _ z; omega
      have y : ¬ t.2 < s.2 := fun hlt => by
        have := (h' (t.2 + 1)).1 (.inl ⟨by omega, by omega⟩)
        rcases this with z | z
        · omega
        · have := B _ z; omega
      omega
    have e3 : a = b := nr_ext (lo := s.2 + 2) p3 (e2 ▸ q3) fun v => by
      constructor
      · intro m
        have := A v m
        rcases (h' v).1 (.inr m) with z | z
        · omega
        · exact z
      · intro m
        have := B v m
        rcases (h' v).2 (.inr m) with z | z
        · omega
        · exact z
    rw [e3, show s = t from Prod.ext e1 e2]
theorem ok_ext {a b : Dm} (ha : Ok a) (hb : Ok b) (h : ∀ v, -16384 ≤ v → v ≤ 16384 → (memF a v = true ↔ memF b v = true)) : a = b := by
  obtain ⟨a1, a2⟩ := ok_nr ha
  obtain ⟨b1, b2⟩ := ok_nr hb
  refine nr_ext a1 b1 fun v => ⟨fun m => (h v (nr_mem a1 m) (up_mem a2 m)).1 m, fun m => (h v (nr_mem b1 m) (up_mem b2 m)).2 m⟩
theorem nr_snoc : ∀ {lo : Int} {d : Dm} {s : Sp}, Nr lo d → (∀ t ∈ d, t.2 + 2 ≤ s.1) → lo ≤ s.1 → s.1 ≤ s.2 → Nr lo (d ++ [s])
  | _, [], s, _, _, h1, h2 => ⟨h1, h2, trivial⟩
  | lo, t :: d, s, ⟨a, b, c⟩, h, h1, h2 => ⟨a, b, nr_snoc c (fun u hu => h u (List.mem_cons_of_mem _ hu)) (h t (by simp)) h2⟩
theorem nr_init : ∀ {lo : Int} {d : Dm} {s : Sp}, Nr lo (d ++ [s]) → Nr lo d ∧ (∀ t ∈ d, t.2 + 2 ≤ s.1) ∧ lo ≤ s.1 ∧ s.1 ≤ s.2
  | _, [], s, ⟨a, b, _⟩ => ⟨trivial, fun t ht => by simp at ht, a, b⟩
  | lo, t :: d, s, ⟨a, b, c⟩ => by
    obtain ⟨p, q, r, u⟩ := nr_init c
    refine ⟨⟨a, b, p⟩, fun x hx => ?_, by omega, u⟩
    rcases List.mem_cons.1 hx with rfl | hx
    · omega
    · exact q x hx
/-- One number more, at the end. -/
def spnStep (out : Dm) (v : Int) : Dm := match out.getLast? with
  | some s => if s.2 + 1 = v then out.dropLast ++ [(s.1, v)] else out ++ [(v, v)]
  | none => [(v, v)]
def spnF (l : List Int) : Dm := l.foldl spnStep []
theorem spn_snoc (l : List Int) (v : Int) : spnF (l ++ [v]) = spnStep (spnF l) v := by simp [spnF]
theorem spnStep_nil (v : Int) : spnStep [] v = [(v, v)] := rfl
theorem spnStep_join (d : Dm) (s : Sp) (v : Int) (h : s.2 + 1 = v) : spnStep (d ++ [s]) v = d ++ [(s.1, v)] := by simp [spnStep, h]
theorem spnStep_more (d : Dm) (s : Sp) (v : Int) (h : s.2 + 1 ≠ v) : spnStep (d ++ [s]) v = d ++ [s] ++ [(v, v)] := by simp [spnStep, h]
/-- The spans of rising numbers. -/
structure SpnP (lo : Int) (l : List Int) (d : Dm) : Prop where
  nr : Nr lo d
  mem : ∀ v, memF d v = true ↔ v ∈ l
  last : ∀ v, l.getLast? = some v → ∃ e s, d = e ++ [s] ∧ s.2 = v
  nil : l = [] → d = []
theorem spn_ok : ∀ (n : Nat) (l : List Int), l.length = n → ∀ lo, List.Pairwise (· < ·) l → (∀ v ∈ l, lo ≤ v) → SpnP lo l (spnF l)
  | 0, l, hn, lo, _, _ => by
    obtain rfl := List.length_eq_zero_iff.1 hn
    exact ⟨trivial, fun v => by simp [spnF, memF], fun v h => by simp at h, fun _ => rfl⟩
  | n + 1, l, hn, lo, hp, hl => by
    have hne : l ≠ [] := by rintro rfl; simp at hn
    obtain ⟨l', v, rfl⟩ : ∃ l' v, l = l' ++ [v] := ⟨l.dropLast, l.getLast hne, (List.dropLast_concat_getLast hne).symm⟩
    have hn' : l'.length = n := by simpa using hn
    rw [List.pairwise_append] at hp
    have ih := spn_ok n l' hn' lo hp.1 (fun x hx => hl x (by simp [hx]))
    rw [spn_snoc]
    have lv : lo ≤ v := hl v (by simp)
    by_cases h0 : l' = []
    · subst h0
      rw [show spnF [] = [] from rfl, spnStep_nil]
      exact ⟨⟨lv, Int.le_refl _, trivial⟩, fun x => by simp [memF]; omega, fun x h => ⟨[], _, rfl, by simp at h; exact h⟩, fun h => by simp at h⟩
    · obtain ⟨l2, u, rfl⟩ : ∃ l2 u, l' = l2 ++ [u] := ⟨l'.dropLast, l'.getLast h0, (List.dropLast_concat_getLast h0).symm⟩
      obtain ⟨d, s, hd, hs⟩ := ih.last u (by simp)
      have huv : u < v := hp.2.2 u (by simp) v (by simp)
      rw [hd]
      have nr := ih.nr
      have mm := ih.mem
      rw [hd] at nr mm
      obtain ⟨n1, n2, n3, n4⟩ := nr_init nr
      by_cases hj : s.2 + 1 = v
      · rw [spnStep_join d s v hj]
        refine ⟨nr_snoc n1 n2 n3 (show s.1 ≤ v by omega), fun x => ?_, fun x h => ⟨d, _, rfl, by simp at h; exact h⟩, fun h => by simp at h⟩
        have m := mm x
        rw [mem_app, mem_cons] at m
        rw [mem_app, mem_cons]
        simp only [mem_nil, Bool.false_eq_true, or_false, List.mem_append, List.mem_singleton] at m ⊢
        constructor
        · rintro (h | h)
          · exact .inl (m.1 (.inl h))
          · by_cases q : x = v
            · exact .inr q
            · exact .inl (m.1 (.inr ⟨h.1, by have := h.2; omega⟩))
        · rintro (h | h)
          · rcases m.2 h with h | h
            · exact .inl h
            · exact .inr ⟨h.1, by have := h.2; omega⟩
          · exact .inr ⟨by omega, by omega⟩
      · rw [spnStep_more d s v hj]
        have hv : s.2 + 2 ≤ v := by omega
        refine ⟨nr_snoc nr (fun t ht => ?_) lv (Int.le_refl _), fun x => ?_, fun x h => ⟨d ++ [s], _, rfl, by simp at h; exact h⟩, fun h => by simp at h⟩
        · rcases List.mem_append.1 ht with ht | ht
          · have := n2 t ht; show t.2 + 2 ≤ v; omega
          · simp at ht; subst ht; exact hv
        · have m := mm x
          rw [mem_app, mem_cons, m]
          simp only [mem_nil, Bool.false_eq_true, or_false, List.mem_append, List.mem_singleton]
          constructor
          · rintro (h | h)
            · exact .inl h
            · exact .inr (by omega)
          · rintro (h | h)
            · exact .inl h
            · exact .inr ⟨by omega, by omega⟩
def rng : List Int := (List.range 32769).map fun (i : Nat) => (i : Int) - 16384
theorem mem_rng {v : Int} : v ∈ rng ↔ -16384 ≤ v ∧ v ≤ 16384 := by
  unfold rng
  rw [List.mem_map]
  constructor
  · rintro ⟨i, hi, rfl⟩; have := List.mem_range.1 hi; omega
  · rintro ⟨a, b⟩; exact ⟨(v + 16384).toNat, List.mem_range.2 (by omega), by omega⟩
theorem rng_up : List.Pairwise (· < ·) rng := by
  unfold rng
  rw [List.pairwise_map]
  exact List.pairwise_lt_range.imp fun h => by omega
/-- The spans of all numbers that are marked. -/
def pkF (p : Int → Bool) : Dm := spnF (rng.filter p)
theorem pk_of {R : List Int} (hu : List.Pairwise (· < ·) R) (hm : ∀ v, v ∈ R ↔ -16384 ≤ v ∧ v ≤ 16384) (p : Int → Bool) : Ok (spnF (R.filter p)) ∧ ∀ v, memF (spnF (R.filter p)) v = true ↔ (-16384 ≤ v ∧ v ≤ 16384) ∧ p v = true := by
  have h := spn_ok _ (R.filter p) rfl (-16384) (hu.filter p) (fun v hv => ((hm v).1 (List.mem_filter.1 hv).1).1)
  have m : ∀ v, memF (spnF (R.filter p)) v = true ↔ (-16384 ≤ v ∧ v ≤ 16384) ∧ p v = true := fun v => by
    rw [h.mem, List.mem_filter, hm]
  refine ⟨nr_ok h.nr fun s hs => ?_, m⟩
  obtain ⟨i, hi, rfl⟩ := mem_sp hs
  exact ((m _).1 (mem_iff.2 ⟨_, sp_mem hi, (nr_get h.nr).1 i hi |>.2, Int.le_refl _⟩)).1.2
theorem pk_ok (p : Int → Bool) : Ok (pkF p) ∧ ∀ v, memF (pkF p) v = true ↔ (-16384 ≤ v ∧ v ≤ 16384) ∧ p v = true := pk_of rng_up (fun v => mem_rng) p
theorem pk_eq {d : Dm} (h : Ok d) {p : Int → Bool} (hp : ∀ v, -16384 ≤ v → v ≤ 16384 → (memF d v = true ↔ p v = true)) : d = pkF p :=
  ok_ext h (pk_ok p).1 fun v h1 h2 => by rw [(pk_ok p).2, hp v h1 h2]; exact ⟨fun q => ⟨⟨h1, h2⟩, q⟩, fun q => q.2⟩

/-- Meeting. -/
theorem meet_nr : ∀ (f : Nat) (a b : Dm) (la lb : Int), Nr la a → Nr lb b → Nr (max la lb) (meetN f a b)
  | 0, _, _, _, _, _, _ => trivial
  | _ + 1, [], _, _, _, _, _ => trivial
  | _ + 1, _ :: _, [], _, _, _, _ => trivial
  | f + 1, s :: x, t :: y, la, lb, ⟨a1, a2, a3⟩, ⟨b1, b2, b3⟩ => by
    simp only [meetN]
    have key : Nr (min s.2 t.2 + 2) (if s.2 < t.2 then meetN f x (t :: y) else meetN f (s :: x) y) := by
      by_cases h : s.2 < t.2
      · rw [if_pos h]; exact (meet_nr f x (t :: y) (s.2 + 2) lb a3 ⟨b1, b2, b3⟩).mono (by omega)
      · rw [if_neg h]; exact (meet_nr f (s :: x) y la (t.2 + 2) ⟨a1, a2, a3⟩ b3).mono (by omega)
    by_cases h : max s.1 t.1 ≤ min s.2 t.2
    · rw [if_pos h]; exact ⟨by show max la lb ≤ max s.1 t.1; omega, h, key⟩
    · rw [if_neg h]
      show Nr _ (if s.2 < t.2 then meetN f x (t :: y) else meetN f (s :: x) y)
      by_cases h : s.2 < t.2
      · rw [if_pos h]; exact (meet_nr f x (t :: y) (s.2 + 2) lb a3 ⟨b1, b2, b3⟩).mono (by omega)
      · rw [if_neg h]; exact (meet_nr f (s :: x) y la (t.2 + 2) ⟨a1, a2, a3⟩ b3).mono (by omega)
theorem meet_mem : ∀ (f : Nat) (a b : Dm) (la lb : Int), a.length + b.length ≤ f → Nr la a → Nr lb b → ∀ v, memF (meetN f a b) v = true ↔ memF a v = true ∧ memF b v = true
  | 0, a, b, _, _, h, _, _ => fun v => by
    obtain rfl : a = [] := List.length_eq_zero_iff.1 (by omega)
    simp [meetN, memF]
  | _ + 1, [], _, _, _, _, _, _ => fun v => by simp [meetN, memF]
  | _ + 1, _ :: _, [], _, _, _, _, _ => fun v => by simp [meetN, memF]
  | f + 1, s :: x, t :: y, la, lb, hl, ⟨a1, a2, a3⟩, ⟨b1, b2, b3⟩ => fun v => by
    simp only [List.length_cons] at hl
    simp only [meetN]
    have X : memF x v = true → s.2 + 2 ≤ v := nr_mem a3
    have Y : memF y v = true → t.2 + 2 ≤ v := nr_mem b3
    have pc : memF (if max s.1 t.1 ≤ min s.2 t.2 then [(max s.1 t.1, min s.2 t.2)] else []) v = true ↔ (s.1 ≤ v ∧ v ≤ s.2) ∧ t.1 ≤ v ∧ v ≤ t.2 := by
      by_cases h : max s.1 t.1 ≤ min s.2 t.2
      · rw [if_pos h, mem_cons]; simp only [mem_nil, Bool.false_eq_true, or_false]; show (max s.1 t.1 ≤ v ∧ v ≤ min s.2 t.2) ↔ _; omega
      · rw [if_neg h]; simp only [mem_nil, Bool.false_eq_true, false_iff]; omega
    rw [mem_app, pc]
    by_cases h : s.2 < t.2
    · rw [if_pos h, meet_mem f x (t :: y) (s.2 + 2) lb (by simp; omega) a3 ⟨b1, b2, b3⟩ v, mem_cons, mem_cons]
      constructor
      · rintro (h | h)
        · exact ⟨.inl h.1, .inl h.2⟩
        · exact ⟨.inr h.1, h.2⟩
      · rintro ⟨h1 | h1, h2 | h2⟩
        · exact .inl ⟨h1, h2⟩
        · have := Y h2; omega
        · exact .inr ⟨h1, .inl h2⟩
        · exact .inr ⟨h1, .inr h2⟩
    · rw [if_neg h, meet_mem f (s :: x) y la (t.2 + 2) (by simp; omega) ⟨a1, a2, a3⟩ b3 v, mem_cons, mem_cons]
      constructor
      · rintro (h | h)
        · exact ⟨.inl h.1, .inl h.2⟩
        · exact ⟨h.1, .inr h.2⟩
      · rintro ⟨h1 | h1, h2 | h2⟩
        · exact .inl ⟨h1, h2⟩
        · exact .inr ⟨.inl h1, h2⟩
        · have := X h1; omega
        · exact .inr ⟨.inr h1, h2⟩
theorem meet_ok {a b : Dm} (ha : Ok a) (hb : Ok b) : Ok (meetF a b) ∧ ∀ v, memF (meetF a b) v = true ↔ memF a v = true ∧ memF b v = true := by
  obtain ⟨a1, a2⟩ := ok_nr ha
  obtain ⟨b1, b2⟩ := ok_nr hb
  have m := meet_mem (a.length + b.length) a b _ _ (Nat.le_refl _) a1 b1
  have n := meet_nr (a.length + b.length) a b _ _ a1 b1
  refine ⟨nr_ok (n.mono (by omega)) fun s hs => ?_, m⟩
  obtain ⟨i, hi, rfl⟩ := mem_sp hs
  exact up_mem a2 ((m _).1 (mem_iff.2 ⟨_, sp_mem hi, ((nr_get n).1 i hi).2, Int.le_refl _⟩)).1
end Go.Proofs.YteiohgiecpibhaaGreat.Fdm
