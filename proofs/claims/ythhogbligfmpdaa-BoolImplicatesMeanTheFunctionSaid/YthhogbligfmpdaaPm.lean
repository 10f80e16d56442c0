/- The variables of a diagram's nodes, sorted, each once. No program. -/
import Derived.Test.YthhogbligfmpdaaPa
import Derived.Lib.RowBridge
set_option linter.unusedVariables false
set_option linter.unusedSimpArgs false
namespace Go.Proofs.Ythhogbligfmpdaa.Bd
open Go.Lib

theorem lt_ext : ∀ {l l' : List Int}, l.Pairwise (· < ·) → l'.Pairwise (· < ·) → (∀ x, x ∈ l ↔ x ∈ l') → l = l'
  | [], [], _, _, _ => rfl
  | [], b :: t, _, _, h => by have := (h b).2 (by simp); simp at this
  | a :: s, [], _, _, h => by have := (h a).1 (by simp); simp at this
  | a :: s, b :: t, h1, h2, h => by
    rw [List.pairwise_cons] at h1 h2
    have e1 : b ≤ a := by
      rcases List.mem_cons.1 ((h a).1 (by simp)) with e | e
      · omega
      · exact Int.le_of_lt (h2.1 a e)
    have e2 : a ≤ b := by
      rcases List.mem_cons.1 ((h b).2 (by simp)) with e | e
      · omega
      · exact Int.le_of_lt (h1.1 b e)
    obtain rfl : a = b := by omega
    congr 1
    refine lt_ext h1.2 h2.2 fun x => ⟨fun hx => ?_, fun hx => ?_⟩
    · have := h1.1 x hx
      rcases List.mem_cons.1 ((h x).1 (List.mem_cons_of_mem _ hx)) with e | e
      · omega
      · exact e
    · have := h2.1 x hx
      rcases List.mem_cons.1 ((h x).2 (List.mem_cons_of_mem _ hx)) with e | e
      · omega
      · exact e

theorem compact_step {d : Array Int} {N : Nat} (hm : ∀ i j, i ≤ j → j < N → d[i]! ≤ d[j]!) : ∀ m, m ≤ N → (compactUpTo d m).Pairwise (· < ·) ∧ ∀ x, x ∈ compactUpTo d m ↔ ∃ j, j < m ∧ d[j]! = x
  | 0, _ => by simp [compactUpTo]
  | m + 1, h => by
    obtain ⟨i1, i2⟩ := compact_step hm m (by omega)
    rw [compactUpTo_succ]
    by_cases hk : keeps d m = true
    · rw [if_pos hk]
      refine ⟨List.pairwise_append.2 ⟨i1, by simp, fun x hx y hy => ?_⟩, fun x => ?_⟩
      · rw [List.mem_singleton] at hy
        subst hy
        obtain ⟨j, hj, rfl⟩ := (i2 x).1 hx
        have h1 := hm j (m - 1) (by omega) (by omega)
        have h2 := hm (m - 1) m (by omega) (by omega)
        have h3 : m = 0 ∨ d[m]! ≠ d[m - 1]! := by unfold keeps at hk; exact of_decide_eq_true hk
        rcases h3 with e | e
        · omega
        · omega
      · rw [List.mem_append, List.mem_singleton, i2]
        constructor
        · rintro (⟨j, hj, e⟩ | e)
          · exact ⟨j, by omega, e⟩
          · exact ⟨m, by omega, e.symm⟩
        · rintro ⟨j, hj, e⟩
          by_cases hjm : j = m
          · subst hjm; right; exact e.symm
          · left; exact ⟨j, by omega, e⟩
    · rw [if_neg hk, List.append_nil]
      refine ⟨i1, fun x => ?_⟩
      have h3 : ¬ (m = 0 ∨ d[m]! ≠ d[m - 1]!) := by unfold keeps at hk; simpa using hk
      have h0 : m ≠ 0 := fun e => h3 (Or.inl e)
      have he : d[m]! = d[m - 1]! := Classical.byContradiction fun e => h3 (Or.inr e)
      rw [i2]
      constructor
      · rintro ⟨j, hj, e⟩; exact ⟨j, by omega, e⟩
      · rintro ⟨j, hj, e⟩
        by_cases hjm : j = m
        · subst hjm; exact ⟨j - 1, by omega, by rw [← he]; exact e⟩
        · exact ⟨j, by omega, e⟩

theorem compact_sorted {zs : List Int} (hs : zs.Pairwise (· ≤ ·)) : (compact zs).Pairwise (· < ·) ∧ ∀ x, x ∈ compact zs ↔ x ∈ zs := by
  have g : ∀ j, (h : j < zs.length) → zs.toArray[j]! = zs[j] := fun j h => by rw [getElem!_pos zs.toArray j (by simpa using h)]; simp
  have hm : ∀ i j, i ≤ j → j < zs.length → zs.toArray[i]! ≤ zs.toArray[j]! := by
    intro i j hij hj
    rw [g i (by omega), g j hj]
    by_cases e : i = j
    · subst e; exact Int.le_refl _
    · exact (List.pairwise_iff_getElem.1 hs) i j (by omega) hj (by omega)
  obtain ⟨h1, h2⟩ := compact_step hm zs.length (Nat.le_refl _)
  refine ⟨h1, fun x => ?_⟩
  show x ∈ compactUpTo zs.toArray zs.length ↔ _
  rw [h2]
  constructor
  · rintro ⟨j, hj, e⟩; rw [g j hj] at e; rw [← e]; exact List.getElem_mem hj
  · intro hx
    obtain ⟨j, hj, e⟩ := List.getElem_of_mem hx
    exact ⟨j, hj, by rw [g j hj]; exact e⟩

/-- The variables that nodes test. -/
def sup (ds : List Nd) : List Int := ((List.range 16).filter fun (v : Nat) => decide ((v : Int) ∈ ds.map (·.1))).map Int.ofNat

def srt (zs : List Int) : List Int := zs.mergeSort fun x y => decide (x ≤ y)

theorem srt_len (zs : List Int) : (srt zs).length = zs.length := List.length_mergeSort _

theorem sup_sorted (ds : List Nd) : (sup ds).Pairwise (· < ·) := by
  unfold sup
  rw [List.pairwise_map]
  exact (List.Pairwise.filter _ List.pairwise_lt_range).imp fun h => by simpa using h

theorem sup_mem {ds : List Nd} {x : Int} : x ∈ sup ds ↔ 0 ≤ x ∧ x < 16 ∧ x ∈ ds.map (·.1) := by
  unfold sup
  rw [List.mem_map]
  constructor
  · rintro ⟨v, hv, rfl⟩
    rw [List.mem_filter, List.mem_range] at hv
    exact ⟨Int.natCast_nonneg _, by have := hv.1; show (v : Int) < 16; omega, of_decide_eq_true hv.2⟩
  · rintro ⟨h0, h1, h2⟩
    refine ⟨x.toNat, ?_, Int.toNat_of_nonneg h0⟩
    rw [List.mem_filter, List.mem_range]
    refine ⟨by omega, decide_eq_true ?_⟩
    rw [Int.toNat_of_nonneg h0]
    exact h2

theorem compact_sup {ds : List Nd} (h : ∀ n ∈ ds, 0 ≤ n.1 ∧ n.1 < 16) : compact (srt (ds.map (·.1))) = sup ds := by
  have hp : (srt (ds.map (·.1))).Pairwise (· ≤ ·) := by
    have := List.pairwise_mergeSort (le := fun (x y : Int) => decide (x ≤ y)) (fun a b c h1 h2 => by simp at h1 h2 ⊢; omega) (fun a b => by simp; omega) (ds.map (·.1))
    exact this.imp fun h => by simpa using h
  obtain ⟨h1, h2⟩ := compact_sorted hp
  refine lt_ext h1 (sup_sorted ds) fun x => ?_
  rw [h2, sup_mem]
  unfold srt
  rw [List.mem_mergeSort]
  constructor
  · intro hx
    obtain ⟨n, hn, rfl⟩ := List.mem_map.1 hx
    exact ⟨(h n hn).1, (h n hn).2, hx⟩
  · exact fun hx => hx.2.2

theorem sup_le (ds : List Nd) : (sup ds).length ≤ 16 := by
  unfold sup
  rw [List.length_map]
  exact Nat.le_trans (List.length_filter_le _ _) (by simp)

end Go.Proofs.Ythhogbligfmpdaa.Bd

/- A table in which a variable has a value; what 'fixed' comes to. No program. -/
namespace Go.Proofs.Ythhogbligfmpdaa.Bd

/-- The table over the last n variables, in which v is b. -/
def fx (v : Int) (b : Bool) : Nat → List Bool → List Bool
  | 0, T => T
  | n + 1, T => if (15 : Int) - n = v then (if b then T.drop (2 ^ n) ++ T.drop (2 ^ n) else T.take (2 ^ n) ++ T.take (2 ^ n)) else if v < (15 : Int) - n then T else fx v b n (T.take (2 ^ n)) ++ fx v b n (T.drop (2 ^ n))

theorem fx_lt {v : Int} {b : Bool} {n : Nat} {S T : List Bool} (h : (15 : Int) - n < v) (hS : S.length = 2 ^ n) : fx v b (n + 1) (S ++ T) = fx v b n S ++ fx v b n T := by
  show (if _ then _ else _) = _
  rw [if_neg (by omega), if_neg (by omega), ← hS, List.take_left, List.drop_left]
theorem fx_at {v : Int} {b : Bool} {n : Nat} {S T : List Bool} (h : (15 : Int) - n = v) (hS : S.length = 2 ^ n) : fx v b (n + 1) (S ++ T) = if b then T ++ T else S ++ S := by
  show (if _ then _ else _) = _
  rw [if_pos h, ← hS, List.take_left, List.drop_left]
theorem fx_gt {v : Int} {b : Bool} {n : Nat} {T : List Bool} (h : v < (15 : Int) - n) : fx v b (n + 1) T = T := by
  show (if _ then _ else _) = _
  rw [if_neg (by omega), if_pos h]

theorem fx_len (v : Int) (b : Bool) : ∀ (n : Nat) (T : List Bool), T.length = 2 ^ n → (fx v b n T).length = 2 ^ n
  | 0, T, h => h
  | n + 1, T, h => by
    have e : 2 ^ (n + 1) = 2 ^ n + 2 ^ n := by rw [Nat.pow_succ]; omega
    have h1 : (T.take (2 ^ n)).length = 2 ^ n := by rw [List.length_take, h, e]; omega
    have h2 : (T.drop (2 ^ n)).length = 2 ^ n := by rw [List.length_drop, h, e]; omega
    show (if _ then _ else _ : List Bool).length = _
    split
    · split <;> simp only [List.length_append, h1, h2, e]
    · split
      · exact h
      · rw [List.length_append, fx_len v b n _ h1, fx_len v b n _ h2, e]

theorem fx_idle {ns : List Nd} {v : Int} {b : Bool} {a : Int} (h : v < top ns a) : ∀ n, fx v b n (tb ns n a) = tb ns n a
  | 0 => rfl
  | n + 1 => by
    by_cases h1 : v < (15 : Int) - n
    · exact fx_gt h1
    · rw [tb_skip (by omega)]
      by_cases h2 : (15 : Int) - n = v
      · rw [fx_at h2 (tb_length _ _ _)]; cases b <;> rfl
      · rw [fx_lt (by omega) (tb_length _ _ _), fx_idle h n]

structure FxRes (ns : List Nd) (a v : Int) (b : Bool) (m : Int) (ns' : List Nd) (r : Int) : Prop where
  ext : ∃ ms, ns' = ns ++ ms ∧ ms.length + 1 ≤ 2 ^ (16 - m).toNat
  good : Good ns'
  ref : Ref ns' r
  top : m ≤ top ns' r
  tab : ∀ n : Nat, (16 : Int) - n ≤ m → tb ns' n r = fx v b n (tb ns n a)

theorem FxRes.mono {ns : List Nd} {a v m m' : Int} {b : Bool} {ns' : List Nd} {r : Int} (h : FxRes ns a v b m ns' r) (hm : m' ≤ m) : FxRes ns a v b m' ns' r := by
  obtain ⟨ms, e, hl⟩ := h.ext
  exact ⟨⟨ms, e, Nat.le_trans hl (pow_mono (by omega))⟩, h.good, h.ref, Int.le_trans hm h.top, fun n hn => h.tab n (by omega)⟩

/-- From one level up to all. -/
theorem fx_up {ns ns' : List Nd} {a r v u : Int} {b : Bool} {k : Nat} (hk : (15 : Int) - k = u) (huv : u ≤ v) (ta : u ≤ top ns a) (tr : u ≤ top ns' r) (h : tb ns' (k + 1) r = fx v b (k + 1) (tb ns (k + 1) a)) : ∀ n : Nat, (16 : Int) - n ≤ u → tb ns' n r = fx v b n (tb ns n a) := by
  intro n hn
  obtain ⟨d, rfl⟩ : ∃ d, n = k + 1 + d := ⟨n - (k + 1), by omega⟩
  clear hn
  induction d with
  | zero => exact h
  | succ d ih =>
    rw [show k + 1 + (d + 1) = (k + 1 + d) + 1 from by omega, tb_skip (n := k + 1 + d) (by omega), tb_skip (n := k + 1 + d) (r := a) (by omega), fx_lt (by omega) (tb_length _ _ _), ih]

theorem fx_same {ns : List Nd} (g : Good ns) {a v m : Int} {b : Bool} (ha : Ref ns a) (hm : m ≤ top ns a) (h : v < top ns a) : FxRes ns a v b m ns a :=
  ⟨⟨[], by simp, one_le_pow _⟩, g, ha, hm, fun n _ => (fx_idle h n).symm⟩

theorem fx_here {ns : List Nd} (g : Good ns) {a v : Int} {b : Bool} (ha : Ref ns a) (h0 : 0 ≤ a) (h : top ns a = v) : FxRes ns a v b v ns (if b then hi ns a else lo ns a) := by
  obtain ⟨l1, l2, l3⟩ := g.ord.ref_lo ha h0
  obtain ⟨h1, h2, h3⟩ := g.ord.ref_hi ha h0
  have t := g.ord.top_lt ha
  have t2 := t.2.2 h0
  obtain ⟨k, hk⟩ : ∃ k : Nat, (15 : Int) - k = v := ⟨(15 - v).toNat, by omega⟩
  refine ⟨⟨[], by simp, one_le_pow _⟩, g, by cases b <;> assumption, by cases b <;> simp <;> omega, fx_up hk (Int.le_refl _) (by omega) (by cases b <;> simp <;> omega) ?_⟩
  rw [tb_node (r := a) (by omega), fx_at hk (tb_length _ _ _)]
  cases b
  · exact tb_skip (by simp; omega)
  · exact tb_skip (by simp; omega)

theorem fx_step {ns ns1 ns2 : List Nd} (g : Good ns) {a v u low high : Int} {b : Bool} (ha : Ref ns a) (h0 : 0 ≤ a) (hu : top ns a = u) (huv : u < v)
    (r0 : FxRes ns (lo ns a) v b (u + 1) ns1 low) (r1 : FxRes ns1 (hi ns a) v b (u + 1) ns2 high) :
    NodeRes ns2 u low high (nodeS ns2 u low high).1 (nodeS ns2 u low high).2 ∧ FxRes ns a v b u (nodeS ns2 u low high).1 (nodeS ns2 u low high).2 := by
  obtain ⟨ms1, rfl, l1⟩ := r0.ext
  obtain ⟨ms2, rfl, l2⟩ := r1.ext
  have t := g.ord.top_lt ha
  have t2 := t.2.2 h0
  obtain ⟨hl1, hl2, hl3⟩ := g.ord.ref_lo ha h0
  obtain ⟨hh1, hh2, hh3⟩ := g.ord.ref_hi ha h0
  have hlow : Ref (ns ++ ms1 ++ ms2) low := r0.ref.app _
  have tlow : u < top (ns ++ ms1 ++ ms2) low := by rw [top_app r0.ref]; have := r0.top; omega
  have H := nodeS_spec r1.good (by omega) (by omega) hlow r1.ref tlow (by have := r1.top; omega)
  obtain ⟨ms3, e3, l3⟩ := H.ext
  refine ⟨H, ⟨ms1 ++ ms2 ++ ms3, by rw [e3]; simp, ?_⟩, H.good, H.ref, H.top, ?_⟩
  · have e : (16 - u).toNat = (16 - (u + 1)).toNat + 1 := by omega
    rw [e, Nat.pow_succ]
    simp only [List.length_append]; omega
  · obtain ⟨k, hk⟩ : ∃ k : Nat, (15 : Int) - k = u := ⟨(15 - u).toNat, by omega⟩
    refine fx_up hk (by omega) (by omega) H.top ?_
    rw [H.tab k hk, tb_app r0.good.ord k r0.ref (by have := r0.top; omega), r0.tab k (by omega), r1.tab k (by omega), tb_node (r := a) (by omega), fx_lt (by omega) (tb_length _ _ _), tb_app g.ord k hh1 (by omega)]

/-- What the walk has remembered. -/
def FxOk (ns : List Nd) (v : Int) (b : Bool) (dl : List (Int × Int)) : Prop :=
  ∀ p ∈ dl, Ref ns p.1 ∧ Ref ns p.2 ∧ top ns p.1 ≤ top ns p.2 ∧ ∀ n : Nat, (16 : Int) - n ≤ top ns p.1 → tb ns n p.2 = fx v b n (tb ns n p.1)

theorem FxOk.nil (ns : List Nd) (v : Int) (b : Bool) : FxOk ns v b [] := fun p hp => by simp at hp
theorem FxOk.app {ns : List Nd} {v : Int} {b : Bool} {dl : List (Int × Int)} (h : FxOk ns v b dl) (o : Ord ns) (ms : List Nd) : FxOk (ns ++ ms) v b dl := by
  intro p hp
  obtain ⟨h1, h2, h3, h4⟩ := h p hp
  refine ⟨h1.app _, h2.app _, by rw [top_app h1, top_app h2]; exact h3, fun n hn => ?_⟩
  rw [top_app h1] at hn
  rw [tb_app o n h2 (by omega), tb_app o n h1 hn]
  exact h4 n hn
theorem FxOk.hit {ns : List Nd} {v : Int} {b : Bool} {dl : List (Int × Int)} (h : FxOk ns v b dl) (g : Good ns) {a r m : Int} (hp : (a, r) ∈ dl) (ta : m ≤ top ns a) : FxRes ns a v b m ns r := by
  obtain ⟨h1, h2, h3, h4⟩ := h _ hp
  exact ⟨⟨[], by simp, one_le_pow _⟩, g, h2, Int.le_trans ta h3, fun n hn => h4 n (Int.le_trans hn ta)⟩
theorem FxOk.push {ns ns' : List Nd} {v : Int} {b : Bool} {dl : List (Int × Int)} (h : FxOk ns' v b dl) (g : Good ns) {a r : Int} (ha : Ref ns a) (hr : FxRes ns a v b (top ns a) ns' r) : FxOk ns' v b (dl ++ [(a, r)]) := by
  obtain ⟨ms, rfl, _⟩ := hr.ext
  intro p hp
  rcases List.mem_append.1 hp with hp | hp
  · exact h p hp
  · simp at hp; subst hp
    refine ⟨ha.app _, hr.ref, by show top (ns ++ ms) a ≤ _; rw [top_app ha]; exact hr.top, fun n hn => ?_⟩
    have hn2 : (16 : Int) - n ≤ top ns a := by have : (16 : Int) - n ≤ top (ns ++ ms) a := hn; rw [top_app ha] at this; exact this
    show tb _ n r = fx v b n (tb _ n a)
    rw [tb_app g.ord n ha hn2]
    exact hr.tab n hn2

/-- A number with a bit put. -/
def setb (k : Nat) (b : Bool) (x : Nat) : Nat := if b then x ||| 2 ^ k else (x ||| 2 ^ k) ^^^ 2 ^ k

theorem setb_bit (k : Nat) (b : Bool) (x i : Nat) : (setb k b x).testBit i = if i = k then b else x.testBit i := by
  unfold setb
  by_cases h : i = k
  · subst h
    cases b <;> simp [Nat.testBit_or, Nat.testBit_xor, Nat.testBit_two_pow]
  · have h2 : ¬ k = i := fun e => h e.symm
    cases b <;> simp [Nat.testBit_or, Nat.testBit_xor, Nat.testBit_two_pow, h, h2]
theorem setb_lt {n y k : Nat} {b : Bool} (hk : k < n) (hy : y < 2 ^ n) : setb k b y < 2 ^ n := by
  have h2 : 2 ^ k < 2 ^ n := Nat.pow_lt_pow_right (by omega) hk
  unfold setb
  cases b
  · exact Nat.xor_lt_two_pow (Nat.or_lt_two_pow hy h2) h2
  · exact Nat.or_lt_two_pow hy h2
theorem add_or {n z : Nat} (h : z < 2 ^ n) : 2 ^ n + z = 2 ^ n ||| z := by
  have := Nat.two_pow_add_eq_or_of_lt h 1
  simpa using this
theorem setb_add {n y k : Nat} {b : Bool} (hk : k < n) (hy : y < 2 ^ n) : setb k b (2 ^ n + y) = 2 ^ n + setb k b y := by
  rw [add_or hy, add_or (setb_lt hk hy)]
  apply Nat.eq_of_testBit_eq
  intro i
  rw [setb_bit, Nat.testBit_or, Nat.testBit_or, setb_bit, Nat.testBit_two_pow]
  by_cases h : i = k
  · subst h
    have : ¬ n = i := by omega
    simp [this]
  · simp [h]
theorem setb_low {n y : Nat} {b : Bool} (hy : y < 2 ^ n) : setb n b y = if b then 2 ^ n + y else y := by
  apply Nat.eq_of_testBit_eq
  intro i
  rw [setb_bit]
  by_cases h : i = n
  · subst h
    rw [if_pos rfl]
    cases b
    · simp [Nat.testBit_lt_two_pow hy]
    · simp [add_or hy, Nat.testBit_or, Nat.testBit_two_pow]
  · rw [if_neg h]
    have h2 : ¬ n = i := fun e => h e.symm
    cases b
    · rfl
    · simp [add_or hy, Nat.testBit_or, Nat.testBit_two_pow, h2]
theorem setb_high {n y : Nat} {b : Bool} (hy : y < 2 ^ n) : setb n b (2 ^ n + y) = if b then 2 ^ n + y else y := by
  rw [← setb_low hy]
  apply Nat.eq_of_testBit_eq
  intro i
  rw [setb_bit, setb_bit, add_or hy, Nat.testBit_or, Nat.testBit_two_pow]
  by_cases h : i = n
  · rw [if_pos h, if_pos h]
  · have h2 : ¬ n = i := fun e => h e.symm
    simp [h, h2]

theorem getD_l {S T : List Bool} {x : Nat} (h : x < S.length) : (S ++ T).getD x false = S.getD x false := by
  rw [List.getD_eq_getElem?_getD, List.getElem?_append_left h, ← List.getD_eq_getElem?_getD]
theorem getD_r {S T : List Bool} {n x : Nat} (h : S.length = n) : (S ++ T).getD (n + x) false = T.getD x false := by
  rw [List.getD_eq_getElem?_getD, List.getElem?_append_right (by omega), show n + x - S.length = x by omega, ← List.getD_eq_getElem?_getD]

theorem fx_get {k : Nat} {v : Int} (hv : (15 : Int) - k = v) (b : Bool) : ∀ (n : Nat) (T : List Bool) (x : Nat), T.length = 2 ^ n → k < n → x < 2 ^ n → (fx v b n T).getD x false = T.getD (setb k b x) false
  | 0, _, _, _, h, _ => by omega
  | n + 1, T, x, hT, hk, hx => by
    have e : 2 ^ (n + 1) = 2 ^ n + 2 ^ n := by rw [Nat.pow_succ]; omega
    obtain ⟨S, U, rfl, hS, hU⟩ : ∃ S U, T = S ++ U ∧ S.length = 2 ^ n ∧ U.length = 2 ^ n :=
      ⟨T.take (2 ^ n), T.drop (2 ^ n), (List.take_append_drop _ _).symm, by rw [List.length_take, hT, e]; omega, by rw [List.length_drop, hT, e]; omega⟩
    rcases Nat.lt_or_ge x (2 ^ n) with h | h
    · by_cases hkn : k = n
      · subst hkn
        rw [fx_at hv hS, setb_low h]
        cases b
        · rw [if_neg (by simp), if_neg (by simp), getD_l (by omega), getD_l (by omega)]
        · rw [if_pos rfl, if_pos rfl, getD_l (by omega), getD_r hS]
      · rw [fx_lt (by omega) hS, getD_l (by rw [fx_len _ _ _ _ hS]; exact h), fx_get hv b n S x hS (by omega) h, getD_l (by rw [hS]; exact setb_lt (by omega) h)]
    · obtain ⟨y, rfl⟩ : ∃ y, x = 2 ^ n + y := ⟨x - 2 ^ n, by omega⟩
      have hy : y < 2 ^ n := by omega
      by_cases hkn : k = n
      · subst hkn
        rw [fx_at hv hS, setb_high hy]
        cases b
        · rw [if_neg (by simp), if_neg (by simp), getD_r hS, getD_l (by omega)]
        · rw [if_pos rfl, if_pos rfl, getD_r hU, getD_r hS]
      · rw [fx_lt (by omega) hS, getD_r (fx_len _ _ _ _ hS), fx_get hv b n U y hU (by omega) hy, setb_add (by omega) hy, getD_r hS]

theorem fx_tl {T : List Bool} {k : Nat} {v : Int} (hv : (15 : Int) - k = v) (b : Bool) (hT : T.length = 65536) (hk : k < 16) : fx v b 16 T = tl fun x => T.getD (setb k b x) false := by
  have hT2 : T.length = 2 ^ 16 := by rw [hT]
  apply List.ext_getElem
  · rw [fx_len _ _ _ _ hT2]; simp [tl]
  · intro i h1 h2
    have hi : i < 2 ^ 16 := by rw [fx_len _ _ _ _ hT2] at h1; exact h1
    have := fx_get hv b 16 T i hT2 hk hi
    rw [List.getD_eq_getElem?_getD, List.getElem?_eq_getElem h1] at this
    simp only [Option.getD_some] at this
    rw [this]
    simp [tl]

end Go.Proofs.Ythhogbligfmpdaa.Bd

/- The function that is true for some values of variables: it hangs on the set of the variables alone. No program. -/
namespace Go.Proofs.Ythhogbligfmpdaa.Bd

/-- True for some value of the variable of bit k. -/
def exB (k : Nat) (f : Nat → Bool) (x : Nat) : Bool := f (setb k false x) || f (setb k true x)
def exF : List Nat → (Nat → Bool) → Nat → Bool
  | [], f => f
  | k :: ks, f => exF ks (exB k f)

theorem exF_snoc (ks : List Nat) (k : Nat) (f : Nat → Bool) : exF (ks ++ [k]) f = exB k (exF ks f) := by
  induction ks generalizing f with
  | nil => rfl
  | cons j js ih => exact ih (exB j f)

theorem setb_back (k : Nat) (b : Bool) (y : Nat) : setb k (y.testBit k) (setb k b y) = y := by
  apply Nat.eq_of_testBit_eq
  intro i
  rw [setb_bit, setb_bit]
  by_cases h : i = k
  · subst h; rw [if_pos rfl]
  · rw [if_neg h, if_neg h]

theorem exF_iff (ks : List Nat) (f : Nat → Bool) (x : Nat) : exF ks f x = true ↔ ∃ y, (∀ i, i ∉ ks → y.testBit i = x.testBit i) ∧ f y = true := by
  induction ks generalizing f with
  | nil =>
    constructor
    · exact fun h => ⟨x, fun _ _ => rfl, h⟩
    · rintro ⟨y, h, hf⟩
      have : y = x := Nat.eq_of_testBit_eq fun i => h i (by simp)
      rw [← this]; exact hf
  | cons k ks ih =>
    show exF ks (exB k f) x = true ↔ _
    rw [ih]
    constructor
    · rintro ⟨z, h, hz⟩
      have go : ∀ b, f (setb k b z) = true → ∃ y, (∀ i, i ∉ k :: ks → y.testBit i = x.testBit i) ∧ f y = true := fun b hb =>
        ⟨setb k b z, fun i hi => by
          rw [List.mem_cons, not_or] at hi
          rw [setb_bit, if_neg hi.1]; exact h i hi.2, hb⟩
      have hz2 : f (setb k false z) = true ∨ f (setb k true z) = true := by simpa [exB] using hz
      rcases hz2 with e | e
      · exact go _ e
      · exact go _ e
    · rintro ⟨y, h, hy⟩
      refine ⟨setb k (x.testBit k) y, fun i hi => ?_, ?_⟩
      · rw [setb_bit]
        by_cases e : i = k
        · subst e; rw [if_pos rfl]
        · rw [if_neg e]; exact h i (by rw [List.mem_cons, not_or]; exact ⟨e, hi⟩)
      · show (f _ || f _) = true
        rw [Bool.or_eq_true]
        have e := setb_back k (x.testBit k) y
        cases hb : y.testBit k with
        | false => rw [hb] at e; left; rw [e]; exact hy
        | true => rw [hb] at e; right; rw [e]; exact hy

theorem exF_congr {ks js : List Nat} (h : ∀ k, k ∈ ks ↔ k ∈ js) (f : Nat → Bool) : exF ks f = exF js f := by
  funext x
  rw [Bool.eq_iff_iff, exF_iff, exF_iff]
  constructor
  · rintro ⟨y, h1, h2⟩; exact ⟨y, fun i hi => h1 i (fun e => hi ((h i).1 e)), h2⟩
  · rintro ⟨y, h1, h2⟩; exact ⟨y, fun i hi => h1 i (fun e => hi ((h i).2 e)), h2⟩

/-- The bit of a variable. -/
def kO (v : Int) : Nat := (15 - v).toNat
theorem kO_is {v : Int} (h0 : 0 ≤ v) (h : v < 16) : (15 : Int) - (kO v : Nat) = v ∧ kO v < 16 := by unfold kO; omega

/-- The variables that are struck, in the program's order. -/
def cpt (vs : List Int) : List Int := Lib.compact (srt vs)

theorem cpt_mem {vs : List Int} {x : Int} : x ∈ cpt vs ↔ x ∈ vs := by
  have hp : (srt vs).Pairwise (· ≤ ·) := by
    have := List.pairwise_mergeSort (le := fun (x y : Int) => decide (x ≤ y)) (fun a b c h1 h2 => by simp at h1 h2 ⊢; omega) (fun a b => by simp; omega) vs
    exact this.imp fun h => by simpa using h
  unfold cpt
  rw [(compact_sorted hp).2]
  unfold srt
  rw [List.mem_mergeSort]

theorem cpt_len {vs : List Int} (h : ∀ z ∈ vs, 0 ≤ z ∧ z < 16) : (cpt vs).length ≤ 16 := by
  have e := compact_sup (ds := vs.map fun v => (v, 0, 0)) (fun n hn => by
    obtain ⟨v, hv, rfl⟩ := List.mem_map.1 hn
    exact h v hv)
  have e2 : (vs.map fun v => ((v, 0, 0) : Nd)).map (·.1) = vs := by rw [List.map_map]; simp [Function.comp_def]
  rw [e2] at e
  unfold cpt
  rw [e]
  exact sup_le _

/-- The function that is true for some values of variables. -/
def exV (vs : List Int) (f : Nat → Bool) : Nat → Bool := exF (vs.map kO) f
theorem exV_nil (f : Nat → Bool) : exV [] f = f := rfl
theorem exV_snoc (vs : List Int) (v : Int) (f : Nat → Bool) : exV (vs ++ [v]) f = exB (kO v) (exV vs f) := by
  unfold exV; rw [List.map_append]; exact exF_snoc _ _ _
theorem exV_cpt (vs : List Int) (f : Nat → Bool) : exV (cpt vs) f = exV vs f := by
  refine exF_congr (fun k => ?_) f
  rw [List.mem_map, List.mem_map]
  constructor
  · rintro ⟨v, h, e⟩; exact ⟨v, cpt_mem.1 h, e⟩
  · rintro ⟨v, h, e⟩; exact ⟨v, cpt_mem.2 h, e⟩

/-- The error of Exists. -/
def exErr (c : Int) (vs : List Int) : Int := if c ≠ 0 then c else if (∀ z ∈ vs, 0 ≤ z ∧ z < 16) then 0 else 1
theorem exErr_bad {c : Int} (h : c ≠ 0) (vs : List Int) : exErr c vs = c := by unfold exErr; rw [if_pos h]
theorem exErr_ok {vs : List Int} (h : ∀ z ∈ vs, 0 ≤ z ∧ z < 16) : exErr 0 vs = 0 := by unfold exErr; rw [if_neg (by simp), if_pos h]
theorem exErr_arg {vs : List Int} (h : ¬ ∀ z ∈ vs, 0 ≤ z ∧ z < 16) : exErr 0 vs = 1 := by unfold exErr; rw [if_neg (by simp), if_neg h]

end Go.Proofs.Ythhogbligfmpdaa.Bd
