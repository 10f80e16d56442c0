/- Plain facts on decision diagrams: a node that is found or added, and the choice of two by a third. No program in sight. -/
import Derived.Test.YthhogbligfmpdaaPa
set_option linter.unusedVariables false
set_option linter.unusedSimpArgs false
namespace Go.Proofs.Ythhogbligfmpdaa.Bd

def nodeS (ns : List Nd) (v l h : Int) : List Nd × Int :=
  if l = h then (ns, l) else
  match ns.findIdx? (· == (v, l, h)) with
  | some i => (ns, (i : Int))
  | none => (ns ++ [(v, l, h)], (ns.length : Int))

theorem nd_of_lt {ns : List Nd} {i : Nat} (h : i < ns.length) : nd ns i = ns[i] := by
  simp [nd, List.getD_eq_getElem?_getD, h]

theorem tb_skip {ns : List Nd} {n : Nat} {r : Int} (h : (15 : Int) - n < top ns r) : tb ns (n + 1) r = tb ns n r ++ tb ns n r := by
  simp only [tb, spl0, spl1]
  rw [if_neg (by omega), if_neg (by omega)]

theorem tb_node {ns : List Nd} {n : Nat} {r : Int} (h : (15 : Int) - n = top ns r) : tb ns (n + 1) r = tb ns n (lo ns r) ++ tb ns n (hi ns r) := by
  simp only [tb, spl0, spl1]
  rw [if_pos (by omega), if_pos (by omega)]

/-- What a node that is asked for comes to. -/
structure NodeRes (ns : List Nd) (v l h : Int) (ns' : List Nd) (r : Int) : Prop where
  ext : ∃ ms, ns' = ns ++ ms ∧ ms.length ≤ 1
  good : Good ns'
  ref : Ref ns' r
  top : v ≤ top ns' r
  tab : ∀ n : Nat, (15 : Int) - n = v → tb ns' (n + 1) r = tb ns n l ++ tb ns n h

theorem nd_last (ns : List Nd) (x : Nd) : nd (ns ++ [x]) ns.length = x := by
  simp [nd, List.getD_eq_getElem?_getD]

theorem Good.push {ns : List Nd} (g : Good ns) {v l h : Int} (hv : 0 ≤ v) (h16 : v < 16) (hl : Ref ns l) (hh : Ref ns h) (tl : v < top ns l) (th : v < top ns h) (hne : l ≠ h) (hnew : (v, l, h) ∉ ns) : Good (ns ++ [(v, l, h)]) := by
  refine ⟨?_, ?_, ?_⟩
  · intro i hi
    simp only [List.length_append, List.length_cons, List.length_nil] at hi
    by_cases hlt : i < ns.length
    · have h1 := g.ord i hlt
      have e1 : nd (ns ++ [(v, l, h)]) i = nd ns i := nd_app (by omega) (by omega)
      have e2 : lo (ns ++ [(v, l, h)]) i = lo ns i := by unfold lo; rw [e1]
      have e3 : Bd.hi (ns ++ [(v, l, h)]) i = Bd.hi ns i := by unfold Bd.hi; rw [e1]
      rw [e1, e2, e3, top_app ⟨h1.2.2.1.1, by omega⟩, top_app ⟨h1.2.2.2.1.1, by omega⟩]
      exact h1
    · have hi' : i = ns.length := by omega
      subst hi'
      have e1 := nd_last ns (v, l, h)
      have e2 : lo (ns ++ [(v, l, h)]) ns.length = l := by unfold lo; rw [e1]
      have e3 : Bd.hi (ns ++ [(v, l, h)]) ns.length = h := by unfold Bd.hi; rw [e1]
      rw [e1, e2, e3, top_app hl, top_app hh]
      exact ⟨hv, h16, hl, hh, tl, th⟩
  · intro i hi
    simp only [List.length_append, List.length_cons, List.length_nil] at hi
    by_cases hlt : i < ns.length
    · have h1 := g.red i hlt
      have e1 : nd (ns ++ [(v, l, h)]) i = nd ns i := nd_app (by omega) (by omega)
      unfold lo Bd.hi at *
      rw [e1]; exact h1
    · have hi' : i = ns.length := by omega
      subst hi'
      unfold lo Bd.hi
      rw [nd_last]; exact hne
  · rw [List.nodup_append]
    refine ⟨g.nodup, by simp, ?_⟩
    intro a ha b hb
    simp at hb; subst hb
    exact fun e => hnew (e ▸ ha)

theorem nodeS_spec {ns : List Nd} (g : Good ns) {v l h : Int} (hv : 0 ≤ v) (h16 : v < 16) (hl : Ref ns l) (hh : Ref ns h) (tl : v < top ns l) (th : v < top ns h) :
    NodeRes ns v l h (nodeS ns v l h).1 (nodeS ns v l h).2 := by
  unfold nodeS
  by_cases e : l = h
  · rw [if_pos e]
    subst e
    show NodeRes ns v l l ns l
    exact ⟨⟨[], by simp, by simp⟩, g, hl, by show v ≤ top ns l; omega, fun n hn => tb_skip (by omega)⟩
  · rw [if_neg e]
    cases hf : ns.findIdx? (· == (v, l, h)) with
    | some i =>
      obtain ⟨hi, h1, _⟩ := List.findIdx?_eq_some_iff_getElem.1 hf
      have h2 : ns[i] = (v, l, h) := by simpa using h1
      have e1 : nd ns i = (v, l, h) := by rw [nd_of_lt hi, h2]
      show NodeRes ns v l h ns i
      refine ⟨⟨[], by simp, by simp⟩, g, ⟨by omega, by omega⟩, ?_, ?_⟩
      · show v ≤ top ns i
        rw [top_nat, e1]; exact Int.le_refl _
      · intro n hn
        show tb ns (n + 1) i = _
        rw [tb_node (by rw [top_nat, e1]; exact hn)]
        unfold lo Bd.hi; rw [e1]
    | none =>
      have hnew : (v, l, h) ∉ ns := by
        intro hm
        have := List.findIdx?_eq_none_iff.1 hf _ hm
        simp at this
      have g' := g.push hv h16 hl hh tl th e hnew
      show NodeRes ns v l h (ns ++ [(v, l, h)]) ns.length
      refine ⟨⟨[(v, l, h)], rfl, by simp⟩, g', ⟨by omega, by simp; omega⟩, ?_, ?_⟩
      · show v ≤ top (ns ++ [(v, l, h)]) ns.length
        rw [top_nat, nd_last]; exact Int.le_refl _
      · intro n hn
        show tb (ns ++ [(v, l, h)]) (n + 1) ns.length = _
        rw [tb_node (by rw [top_nat, nd_last]; exact hn)]
        unfold lo Bd.hi; rw [nd_last]
        rw [tb_app g.ord n hl (by omega), tb_app g.ord n hh (by omega)]

/-- Choice, entry by entry. -/
def it3 : List Bool → List Bool → List Bool → List Bool
  | a :: x, b :: y, c :: z => (if a then b else c) :: it3 x y z
  | _, _, _ => []

theorem it3_append : ∀ (x y z x' y' z' : List Bool), x.length = y.length → x.length = z.length → it3 (x ++ x') (y ++ y') (z ++ z') = it3 x y z ++ it3 x' y' z'
  | [], y, z, x', y', z', h1, h2 => by
    have : y = [] := List.length_eq_zero_iff.1 h1.symm
    have : z = [] := List.length_eq_zero_iff.1 h2.symm
    subst y z; simp [it3]
  | a :: x, y, z, x', y', z', h1, h2 => by
    match y, z, h1, h2 with
    | b :: y, c :: z, h1, h2 =>
      simp only [List.cons_append, it3, List.cons.injEq, true_and]
      exact it3_append x y z x' y' z' (by simpa using h1) (by simpa using h2)

/-- What the choice of b or c by a comes to; m: at most the variables of all three. -/
structure IteRes (ns : List Nd) (a b c : Int) (m : Int) (ns' : List Nd) (r : Int) : Prop where
  ext : ∃ ms, ns' = ns ++ ms ∧ ms.length + 1 ≤ 2 ^ (16 - m).toNat
  good : Good ns'
  ref : Ref ns' r
  top : m ≤ top ns' r
  tab : ∀ n : Nat, (16 : Int) - n ≤ m → tb ns' n r = it3 (tb ns n a) (tb ns n b) (tb ns n c)

theorem pow_mono {a b : Nat} (h : a ≤ b) : 2 ^ a ≤ 2 ^ b := Nat.pow_le_pow_right (by omega) h

theorem IteRes.mono {ns : List Nd} {a b c m m' : Int} {ns' : List Nd} {r : Int} (h : IteRes ns a b c m ns' r) (hm : m' ≤ m) : IteRes ns a b c m' ns' r := by
  obtain ⟨ms, e, hl⟩ := h.ext
  exact ⟨⟨ms, e, Nat.le_trans hl (pow_mono (by omega))⟩, h.good, h.ref, Int.le_trans hm h.top, fun n hn => h.tab n (by omega)⟩

theorem it3_true (x y z : List Bool) (hx : ∀ u ∈ x, u = true) (h1 : x.length = y.length) (h2 : x.length = z.length) : it3 x y z = y := by
  induction x generalizing y z with
  | nil => simp [it3]; exact List.length_eq_zero_iff.1 h1.symm
  | cons a x ih =>
    match y, z, h1, h2 with
    | b :: y, c :: z, h1, h2 =>
      simp only [it3]
      rw [ih y z (fun u hu => hx u (List.mem_cons_of_mem _ hu)) (by simpa using h1) (by simpa using h2), hx a List.mem_cons_self]
      rfl

theorem it3_false (x y z : List Bool) (hx : ∀ u ∈ x, u = false) (h1 : x.length = y.length) (h2 : x.length = z.length) : it3 x y z = z := by
  induction x generalizing y z with
  | nil => simp [it3]; exact List.length_eq_zero_iff.1 h2.symm
  | cons a x ih =>
    match y, z, h1, h2 with
    | b :: y, c :: z, h1, h2 =>
      simp only [it3]
      rw [ih y z (fun u hu => hx u (List.mem_cons_of_mem _ hu)) (by simpa using h1) (by simpa using h2), hx a List.mem_cons_self]
      rfl

theorem it3_same (x y : List Bool) (h1 : x.length = y.length) : it3 x y y = y := by
  induction x generalizing y with
  | nil => simp [it3]; exact List.length_eq_zero_iff.1 h1.symm
  | cons a x ih =>
    match y, h1 with
    | b :: y, h1 => simp only [it3, ite_self, ih y (by simpa using h1)]

theorem it3_id (x y z : List Bool) (hy : ∀ u ∈ y, u = true) (hz : ∀ u ∈ z, u = false) (h1 : x.length = y.length) (h2 : x.length = z.length) : it3 x y z = x := by
  induction x generalizing y z with
  | nil => simp [it3]
  | cons a x ih =>
    match y, z, h1, h2 with
    | b :: y, c :: z, h1, h2 =>
      simp only [it3]
      rw [ih y z (fun u hu => hy u (List.mem_cons_of_mem _ hu)) (fun u hu => hz u (List.mem_cons_of_mem _ hu)) (by simpa using h1) (by simpa using h2), hy b List.mem_cons_self, hz c List.mem_cons_self]
      cases a <;> rfl

theorem tb_const {ns : List Nd} (n : Nat) (hn : n ≤ 16) {r : Int} (hr : r < 0) : tb ns n r = List.replicate (2 ^ n) (r == -2) := by
  induction n with
  | zero => rfl
  | succ n ih => rw [tb_skip (by rw [top_neg hr]; omega), ih (by omega)]; simp [Nat.pow_succ, Nat.mul_two]

theorem tb_const' {ns : List Nd} (n : Nat) {r : Int} (hr : r < 0) : ∀ u ∈ tb ns n r, u = (r == -2) := by
  induction n with
  | zero => simp [tb]
  | succ n ih => rw [tb_skip (by rw [top_neg hr]; omega)]; intro u hu; rcases List.mem_append.1 hu with h | h <;> exact ih u h

theorem one_le_pow (k : Nat) : 0 + 1 ≤ 2 ^ k := Nat.one_le_two_pow

theorem ite_b {ns : List Nd} (g : Good ns) {a b c m : Int} (hb : Ref ns b) (mb : m ≤ top ns b) (h : a = -2 ∨ b = c) : IteRes ns a b c m ns b := by
  refine ⟨⟨[], by simp, one_le_pow _⟩, g, hb, mb, fun n _ => ?_⟩
  rcases h with h | h
  · subst h; rw [it3_true]
    · intro u hu; rw [tb_const' n (by omega) u hu]; rfl
    · simp [tb_length]
    · simp [tb_length]
  · subst h; rw [it3_same]; simp [tb_length]

theorem ite_c {ns : List Nd} (g : Good ns) {a b c m : Int} (hc : Ref ns c) (mc : m ≤ top ns c) (h : a = -1) : IteRes ns a b c m ns c := by
  refine ⟨⟨[], by simp, one_le_pow _⟩, g, hc, mc, fun n _ => ?_⟩
  subst h; rw [it3_false]
  · intro u hu; rw [tb_const' n (by omega) u hu]; rfl
  · simp [tb_length]
  · simp [tb_length]

theorem ite_a {ns : List Nd} (g : Good ns) {a b c m : Int} (ha : Ref ns a) (ma : m ≤ top ns a) (h : b = -2 ∧ c = -1) : IteRes ns a b c m ns a := by
  refine ⟨⟨[], by simp, one_le_pow _⟩, g, ha, ma, fun n _ => ?_⟩
  obtain ⟨rfl, rfl⟩ := h; rw [it3_id]
  · intro u hu; rw [tb_const' n (by omega) u hu]; rfl
  · intro u hu; rw [tb_const' n (by omega) u hu]; rfl
  · simp [tb_length]
  · simp [tb_length]

theorem ite_step {ns ns1 ns2 : List Nd} (g : Good ns) {a b c v low high : Int} (ha : Ref ns a) (hb : Ref ns b) (hc : Ref ns c) (hv : 0 ≤ v) (h16 : v < 16)
    (ta : v ≤ top ns a) (tb' : v ≤ top ns b) (tc : v ≤ top ns c)
    (h0 : IteRes ns (spl0 ns a v) (spl0 ns b v) (spl0 ns c v) (v + 1) ns1 low)
    (h1 : IteRes ns1 (spl1 ns a v) (spl1 ns b v) (spl1 ns c v) (v + 1) ns2 high) :
    IteRes ns a b c v (nodeS ns2 v low high).1 (nodeS ns2 v low high).2 := by
  obtain ⟨ms1, rfl, l1⟩ := h0.ext
  obtain ⟨ms2, rfl, l2⟩ := h1.ext
  have hlow : Ref (ns ++ ms1 ++ ms2) low := h0.ref.app _
  have tlow : v < top (ns ++ ms1 ++ ms2) low := by rw [top_app h0.ref]; have := h0.top; omega
  have H := nodeS_spec h1.good hv h16 hlow h1.ref tlow (by have := h1.top; omega)
  obtain ⟨ms3, e3, l3⟩ := H.ext
  refine ⟨⟨ms1 ++ ms2 ++ ms3, by rw [e3]; simp, ?_⟩, H.good, H.ref, H.top, ?_⟩
  · have e : (16 - v).toNat = (16 - (v + 1)).toNat + 1 := by omega
    rw [e, Nat.pow_succ]
    simp only [List.length_append]; omega
  · obtain ⟨k, hk⟩ : ∃ k : Nat, (15 : Int) - k = v := ⟨(15 - v).toNat, by omega⟩
    have base : tb (nodeS (ns ++ ms1 ++ ms2) v low high).1 (k + 1) (nodeS (ns ++ ms1 ++ ms2) v low high).2 = it3 (tb ns (k + 1) a) (tb ns (k + 1) b) (tb ns (k + 1) c) := by
      rw [H.tab k hk, tb_app h0.good.ord k h0.ref (by have := h0.top; omega), h0.tab k (by omega), h1.tab k (by omega)]
      have sa := g.ord.spl1 ha ta h16
      have sb := g.ord.spl1 hb tb' h16
      have sc := g.ord.spl1 hc tc h16
      rw [tb_app g.ord k sa.1 (by omega), tb_app g.ord k sb.1 (by omega), tb_app g.ord k sc.1 (by omega)]
      rw [← it3_append _ _ _ _ _ _ (by simp [tb_length]) (by simp [tb_length])]
      simp only [tb, hk]
    intro n hn
    obtain ⟨d, rfl⟩ : ∃ d, n = k + 1 + d := ⟨n - (k + 1), by omega⟩
    clear hn
    induction d with
    | zero => exact base
    | succ d ih =>
      have ht := H.top
      rw [show k + 1 + (d + 1) = (k + 1 + d) + 1 from by omega, tb_skip (n := k + 1 + d) (by omega), tb_skip (n := k + 1 + d) (r := a) (by omega), tb_skip (n := k + 1 + d) (r := b) (by omega), tb_skip (n := k + 1 + d) (r := c) (by omega),
        it3_append _ _ _ _ _ _ (by simp [tb_length]) (by simp [tb_length]), ih]

/-- What is remembered of choices made before. -/
def DoneOk (ns : List Nd) (dn : List (Nd × Int)) : Prop :=
  ∀ p ∈ dn, Ref ns p.1.1 ∧ Ref ns p.1.2.1 ∧ Ref ns p.1.2.2 ∧ Ref ns p.2 ∧
    (∀ m : Int, m ≤ top ns p.1.1 → m ≤ top ns p.1.2.1 → m ≤ top ns p.1.2.2 → m ≤ top ns p.2 ∧ ∀ n : Nat, (16 : Int) - n ≤ m → tb ns n p.2 = it3 (tb ns n p.1.1) (tb ns n p.1.2.1) (tb ns n p.1.2.2))

theorem DoneOk.app {ns : List Nd} {dn : List (Nd × Int)} (h : DoneOk ns dn) (g : Ord ns) (ms : List Nd) : DoneOk (ns ++ ms) dn := by
  intro p hp
  obtain ⟨h1, h2, h3, h4, h5⟩ := h p hp
  refine ⟨h1.app _, h2.app _, h3.app _, h4.app _, fun m a b c => ?_⟩
  rw [top_app h1] at a
  rw [top_app h2] at b
  rw [top_app h3] at c
  obtain ⟨t, k⟩ := h5 m a b c
  refine ⟨by rw [top_app h4]; exact t, fun n hn => ?_⟩
  rw [tb_app g n h4 (by omega), tb_app g n h1 (by omega), tb_app g n h2 (by omega), tb_app g n h3 (by omega)]
  exact k n hn

theorem DoneOk.hit {ns : List Nd} {dn : List (Nd × Int)} (h : DoneOk ns dn) (g : Good ns) {a b c r m : Int} (hp : ((a, b, c), r) ∈ dn) (ta : m ≤ top ns a) (tb' : m ≤ top ns b) (tc : m ≤ top ns c) : IteRes ns a b c m ns r := by
  obtain ⟨h1, h2, h3, h4, h5⟩ := h _ hp
  obtain ⟨t, k⟩ := h5 m ta tb' tc
  exact ⟨⟨[], by simp, one_le_pow _⟩, g, h4, t, k⟩

theorem DoneOk.push {ns ns' : List Nd} {dn : List (Nd × Int)} (h : DoneOk ns' dn) (g : Good ns) {a b c r v : Int} (ha : Ref ns a) (hb : Ref ns b) (hc : Ref ns c) (hv : v = min (top ns a) (min (top ns b) (top ns c))) (hr : IteRes ns a b c v ns' r) : DoneOk ns' (dn ++ [((a, b, c), r)]) := by
  obtain ⟨ms, rfl, _⟩ := hr.ext
  intro p hp
  rcases List.mem_append.1 hp with hp | hp
  · exact h p hp
  · simp at hp; subst hp
    refine ⟨ha.app _, hb.app _, hc.app _, hr.ref, fun m ta tb' tc => ?_⟩
    dsimp only at ta tb' tc ⊢
    rw [top_app ha] at ta
    rw [top_app hb] at tb'
    rw [top_app hc] at tc
    have hm : m ≤ v := by omega
    refine ⟨Int.le_trans hm hr.top, fun n hn => ?_⟩
    rw [tb_app g.ord n ha (by omega), tb_app g.ord n hb (by omega), tb_app g.ord n hc (by omega)]
    exact hr.tab n (by omega)

end Go.Proofs.Ythhogbligfmpdaa.Bd
