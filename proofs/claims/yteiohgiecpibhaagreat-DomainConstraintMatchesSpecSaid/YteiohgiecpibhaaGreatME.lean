/- ruleOf, picked, copied, Index, Contains. -/
import Derived.Test.YteiohgiecpibhaaGreatMD
set_option linter.unusedVariables false
set_option linter.unusedSimpArgs false
set_option maxRecDepth 100000
set_option maxHeartbeats 4000000
namespace Go.Proofs.YteiohgiecpibhaaGreat
open Go.RowKit Fdm

/-- What is in blocks of another kind than lists of domains is kept. -/
def KpT (w w' : World) : Prop := ∀ b ty, Blk w b ty → ty ≠ 23 → w'.heap[b]? = w.heap[b]?
theorem KpT.refl (w : World) : KpT w w := fun _ _ _ _ => rfl
theorem KpT.trans {a b c : World} (h : KpT a b) (k : KpT b c) : KpT a c := fun g ty hb ht => (k g ty (hb.keep (h g ty hb ht)) ht).trans (h g ty hb ht)
theorem KpT.of_below {w w' : World} (h : Below w.heap.size w w') : KpT w w' := fun _ _ hb _ => h.block _ hb.lt
/-- All but block g is kept. -/
structure But (g : Nat) (w w' : World) : Prop where
  os : w'.os = w.os
  tape : w'.tape = w.tape
  output : w'.output = w.output
  size : w.heap.size ≤ w'.heap.size
  block : ∀ b, b < w.heap.size → b ≠ g → w'.heap[b]? = w.heap[b]?
theorem But.refl (g : Nat) (w : World) : But g w w := ⟨rfl, rfl, rfl, Nat.le_refl _, fun _ _ _ => rfl⟩
theorem But.trans {g : Nat} {a b c : World} (h : But g a b) (k : But g b c) : But g a c :=
  ⟨k.os.trans h.os, k.tape.trans h.tape, k.output.trans h.output, Nat.le_trans h.size k.size, fun x hx hg => (k.block x (Nat.lt_of_lt_of_le hx h.size) hg).trans (h.block x hx hg)⟩
theorem But.of_below {g : Nat} {w w' : World} (h : Below w.heap.size w w') : But g w w' := ⟨h.os, h.tape, h.output, h.size, fun b hb _ => h.block b hb⟩
theorem But.setCell (g : Nat) (w : World) (i : Nat) (v : Value) : But g w (w.setCell ⟨g, i, none⟩ v) := by
  have := (Below.refl 0 w).setCell (p := ⟨g, i, none⟩) (Nat.zero_le _) v
  exact ⟨this.os, this.tape, this.output, this.size, fun b _ hg => heap_setCell_other _ _ _ _ hg⟩
theorem But.below {g n : Nat} {w0 w w' : World} (h : But g w w') (hg : n ≤ g) (hn : n ≤ w.heap.size) (B : Below n w0 w) : Below n w0 w' :=
  ⟨h.os.trans B.os, h.tape.trans B.tape, h.output.trans B.output, Nat.le_trans B.size h.size, fun b hb => (h.block b (Nat.lt_of_lt_of_le hb hn) (by omega)).trans (B.block b hb)⟩
theorem But.kp {g : Nat} {w w' : World} (h : But g w w') (hg : Blk w g 23) : KpT w w' := fun b ty hb ht => h.block b hb.lt fun e => (hb.ne (e ▸ hg) ht) rfl
theorem cells_kp {w w' : World} {b ty : Nat} (h : KpT w w') (hb : Blk w b ty) (ht : ty ≠ 23) {o : Nat} {v : Value} (hc : w.cell? ⟨b, o, none⟩ = some v) : w'.cell? ⟨b, o, none⟩ = some v := (cells_same (h b ty hb ht) o).trans hc
theorem DmV.kp {w w' : World} {d : Dm} {v : Value} (h : DmV w d v) (k : KpT w w') : DmV w' d v := by
  obtain ⟨a, c, e, h1, h2, h3⟩ := h.ex
  refine ⟨a, c, e, h1, h2, fun hne => ?_⟩
  obtain ⟨g, o, e, b, q⟩ := h3 hne
  exact ⟨g, o, e, b.keep (k g 63 b (by decide)), fun i hi => ⟨cells_kp k b (by decide) (q i hi).1, cells_kp k b (by decide) (q i hi).2⟩⟩
/-- Numbers in memory of their own kind. -/
def InB (w : World) (l : List Int) (a : Option Addr) : Prop := l ≠ [] → ∃ g o, a = some ⟨g, o, none⟩ ∧ Blk w g 3 ∧ ∀ i, i < l.length → w.cell? ⟨g, o + i, none⟩ = some (.int .i64 (l.getD i 0))
structure InV (w : World) (l : List Int) (v : Value) : Prop where
  ex : ∃ a c, v = .slice a l.length c ∧ l.length ≤ c ∧ c ≤ 9223372036854775807 ∧ InB w l a
theorem InV.kp {w w' : World} {l : List Int} {v : Value} (h : InV w l v) (k : KpT w w') : InV w' l v := by
  obtain ⟨a, c, e, h1, h2, h3⟩ := h.ex
  refine ⟨a, c, e, h1, h2, fun hne => ?_⟩
  obtain ⟨g, o, e, b, q⟩ := h3 hne
  exact ⟨g, o, e, b.keep (k g 3 b (by decide)), fun i hi => cells_kp k b (by decide) (q i hi)⟩
theorem InV.nil (w : World) : InV w [] (.slice none 0 0) := ⟨none, 0, rfl, Nat.le_refl _, by omega, fun h => absurd rfl h⟩
def TuV (w : World) (T : List (List Int)) (v : Value) : Prop := ∃ a c, v = .slice a T.length c ∧ T.length ≤ c ∧ c ≤ 9223372036854775807 ∧ (T ≠ [] → ∃ g o, a = some ⟨g, o, none⟩ ∧ Blk w g 30 ∧ ∀ i, i < T.length → ∃ u, w.cell? ⟨g, o + i, none⟩ = some u ∧ InV w (T.getD i []) u)
theorem TuV.kp {w w' : World} {T : List (List Int)} {v : Value} (h : TuV w T v) (k : KpT w w') : TuV w' T v := by
  obtain ⟨a, c, e, h1, h2, h3⟩ := h
  refine ⟨a, c, e, h1, h2, fun hne => ?_⟩
  obtain ⟨g, o, e, b, q⟩ := h3 hne
  refine ⟨g, o, e, b.keep (k g 30 b (by decide)), fun i hi => ?_⟩
  obtain ⟨u, p, r⟩ := q i hi
  exact ⟨u, cells_kp k b (by decide) p, r.kp k⟩
theorem TuV.nil (w : World) : TuV w [] (.slice none 0 0) := ⟨none, 0, rfl, Nat.le_refl _, by omega, fun h => absurd rfl h⟩
/-- The lists of a constraint. -/
structure Kc (w : World) (c : Con) (x1 x2 x3 x6 : Value) : Prop where
  vars : InV w c.vars x1
  coefs : InV w c.coefs x2
  needs : InV w c.needs x3
  tups : TuV w c.tuples x6
theorem Kc.kp {w w' : World} {c : Con} {x1 x2 x3 x6 : Value} (h : Kc w c x1 x2 x3 x6) (k : KpT w w') : Kc w' c x1 x2 x3 x6 := ⟨h.vars.kp k, h.coefs.kp k, h.needs.kp k, h.tups.kp k⟩
/-- Constraints in memory. -/
def PsB (w : World) (P : List Con) (a : Option Addr) : Prop := P ≠ [] → ∃ g o, a = some ⟨g, o, none⟩ ∧ Blk w g 33 ∧ ∀ i, i < P.length → ∃ x1 x2 x3 x6,
  w.cell? ⟨g, o + i * 7, none⟩ = some (.int .i64 (con P i).kind) ∧ w.cell? ⟨g, o + i * 7 + 1, none⟩ = some x1 ∧ w.cell? ⟨g, o + i * 7 + 2, none⟩ = some x2 ∧ w.cell? ⟨g, o + i * 7 + 3, none⟩ = some x3 ∧
  w.cell? ⟨g, o + i * 7 + 4, none⟩ = some (.int .i64 (con P i).rel) ∧ w.cell? ⟨g, o + i * 7 + 5, none⟩ = some (.int .i64 (con P i).bound) ∧ w.cell? ⟨g, o + i * 7 + 6, none⟩ = some x6 ∧ Kc w (con P i) x1 x2 x3 x6
structure PsV (w : World) (P : List Con) (v : Value) : Prop where
  ex : ∃ a c, v = .slice a P.length c ∧ P.length ≤ c ∧ c ≤ 9223372036854775807 ∧ PsB w P a
theorem PsB.kp {w w' : World} {P : List Con} {a : Option Addr} (h : PsB w P a) (k : KpT w w') : PsB w' P a := fun hne => by
  obtain ⟨g, o, e, b, q⟩ := h hne
  refine ⟨g, o, e, b.keep (k g 33 b (by decide)), fun i hi => ?_⟩
  obtain ⟨x1, x2, x3, x6, p0, p1, p2, p3, p4, p5, p6, r⟩ := q i hi
  exact ⟨x1, x2, x3, x6, cells_kp k b (by decide) p0, cells_kp k b (by decide) p1, cells_kp k b (by decide) p2, cells_kp k b (by decide) p3, cells_kp k b (by decide) p4, cells_kp k b (by decide) p5, cells_kp k b (by decide) p6, r.kp k⟩
theorem PsV.kp {w w' : World} {P : List Con} {v : Value} (h : PsV w P v) (k : KpT w w') : PsV w' P v := by
  obtain ⟨a, c, e, h1, h2, h3⟩ := h.ex
  exact ⟨a, c, e, h1, h2, h3.kp k⟩
/-- Domains of a list in a block of its own. -/
theorem DsG.set {w : World} {g i : Nat} {D : List Dm} {d : Dm} {u : Value} (h : DsG w g D) (hi : i < D.length) (hu : DmV w d u) : DsG (w.setCell ⟨g, i, none⟩ u) g (D.set i d) := by
  have K : KpT w (w.setCell ⟨g, i, none⟩ u) := (But.setCell g w i u).kp h.blk
  refine ⟨h.blk.setCell _ _ _, fun j hj => ?_⟩
  rw [List.length_set] at hj
  obtain ⟨x, p, q⟩ := h.cs j hj
  by_cases e : j = i
  · subst e
    refine ⟨u, World.cell?_setCell_same' _ _ _ (by rw [p]; rfl), ?_⟩
    have : dm (D.set j d) j = d := by unfold dm; rw [List.getD_eq_getElem?_getD, List.getElem?_set_self hj]; rfl
    rw [this]; exact hu.kp K
  · refine ⟨x, ?_, ?_⟩
    · rw [World.cell?_setCell_other _ _ _ _ (by intro q; injection q with _ q _; omega)]; exact p
    · have : dm (D.set i d) j = dm D j := by unfold dm; rw [List.getD_eq_getElem?_getD, List.getD_eq_getElem?_getD, List.getElem?_set_ne (Ne.symm e)]
      rw [this]; exact q.kp K
theorem DsG.below {w w' : World} {g : Nat} {D : List Dm} (h : DsG w g D) (hb : Below w.heap.size w w') : DsG w' g D :=
  ⟨h.blk.keep (hb.block _ h.blk.lt), fun i hi => by obtain ⟨u, p, q⟩ := h.cs i hi; exact ⟨u, cell_later hb (Nat.le_refl _) p, q.below hb⟩⟩
/-- A list of domains being filled. -/
structure DsF (w : World) (g n k : Nat) (f : Nat → Dm) : Prop where
  blk : Blk w g 23
  old : ∀ i, i < n → ∃ u, w.cell? ⟨g, i, none⟩ = some u
  cs : ∀ i, i < k → ∃ u, w.cell? ⟨g, i, none⟩ = some u ∧ DmV w (f i) u
theorem DsF.below {w w' : World} {g n k : Nat} {f : Nat → Dm} (h : DsF w g n k f) (hb : Below w.heap.size w w') : DsF w' g n k f :=
  ⟨h.blk.keep (hb.block _ h.blk.lt), fun i hi => by obtain ⟨u, p⟩ := h.old i hi; exact ⟨u, cell_later hb (Nat.le_refl _) p⟩, fun i hi => by obtain ⟨u, p, q⟩ := h.cs i hi; exact ⟨u, cell_later hb (Nat.le_refl _) p, q.below hb⟩⟩
theorem DsF.set {w : World} {g n k : Nat} {f : Nat → Dm} {u : Value} (h : DsF w g n k f) (hk : k < n) (hu : DmV w (f k) u) : DsF (w.setCell ⟨g, k, none⟩ u) g n (k + 1) f := by
  have K : KpT w (w.setCell ⟨g, k, none⟩ u) := (But.setCell g w k u).kp h.blk
  obtain ⟨x0, p0⟩ := h.old k hk
  have same : (w.setCell ⟨g, k, none⟩ u).cell? ⟨g, k, none⟩ = some u := World.cell?_setCell_same' _ _ _ (by rw [p0]; rfl)
  have oth : ∀ i, i ≠ k → (w.setCell ⟨g, k, none⟩ u).cell? ⟨g, i, none⟩ = w.cell? ⟨g, i, none⟩ := fun i e => World.cell?_setCell_other _ _ _ _ (by intro q; injection q with _ q _; omega)
  refine ⟨h.blk.setCell _ _ _, fun i hi => ?_, fun i hi => ?_⟩
  · by_cases e : i = k
    · subst e; exact ⟨u, same⟩
    · obtain ⟨x, p⟩ := h.old i hi
      exact ⟨x, (oth i e).trans p⟩
  · by_cases e : i = k
    · subst e; exact ⟨u, same, hu.kp K⟩
    · obtain ⟨x, p, q⟩ := h.cs i (by omega)
      exact ⟨x, (oth i e).trans p, q.kp K⟩
theorem DsF.made {w : World} {base g n : Nat} {f : Nat → Dm} (h : w.ownsRow base 23 1 (.slice (some ⟨g, 0, none⟩) n n) n (madeCells (Value.slice none 0 0).cells (n * 1)).toList) : DsF w g n 0 f ∧ base ≤ g := by
  rcases h.2 with ⟨e, _⟩ | ⟨g', cap, cur, e, hb, hg, hnc, hcm, hcs, htake⟩
  · simp at e
  · simp only [Value.slice.injEq, Option.some.injEq, Addr.mk.injEq] at e
    obtain ⟨⟨rfl, -⟩, -, rfl⟩ := e
    refine ⟨⟨⟨_, hg⟩, fun i hi => ?_, fun i hi => absurd hi (Nat.not_lt_zero _)⟩, hb⟩
    rw [cell_of_row _ _ _ _ _ _ hg]
    exact ⟨cur[i]'(by rw [hcs]; omega), by simp⟩
theorem DsF.v {w : World} {g n : Nat} {X : List Dm} (h : DsF w g n n (dm X)) (hn : X.length = n) (hc : n ≤ 1000000) : DsV w X (.slice (some ⟨g, 0, none⟩) n n) :=
  ⟨some ⟨g, 0, none⟩, n, by rw [hn], by omega, by omega, fun _ => ⟨g, 0, rfl, fun i hi => by obtain ⟨u, p, q⟩ := h.cs i (by omega); exact ⟨u, by rw [Nat.zero_add]; exact p, q⟩⟩⟩
theorem ruleOf_any (k : Nat) (h1 : 1 ≤ k) (h2 : k ≤ 10) (w : World) : Calls Tryz.prog 133 #[.int .i64 (k : Int)] w fun e w' => e = .returned (.func (.func (148 + k)) #[] #[]) ∧ Below w.heap.size w w' := by
  obtain rfl | rfl | rfl | rfl | rfl | rfl | rfl | rfl | rfl | rfl : k = 1 ∨ k = 2 ∨ k = 3 ∨ k = 4 ∨ k = 5 ∨ k = 6 ∨ k = 7 ∨ k = 8 ∨ k = 9 ∨ k = 10 := by omega
  all_goals
    go_enter Tryz.func133, Tryz.ntmps133
    go_wp2_with fail
    go_ret
    exact ⟨rfl, below_new _ _⟩
end Go.Proofs.YteiohgiecpibhaaGreat
set_option linter.unusedVariables false
set_option linter.unusedSimpArgs false
set_option maxRecDepth 100000
set_option maxHeartbeats 4000000
namespace Go.Proofs.YteiohgiecpibhaaGreat
open Go.RowKit Fdm

/-- Its variables are among n. -/
def VarsIn (c : Con) (n : Nat) : Prop := ∀ i, i < c.vars.length → c.vars.getD i 0 = ((vr c i : Nat) : Int) ∧ vr c i < n
theorem pick_len (D : List Dm) (c : Con) : (pickF D c).length = c.vars.length := by simp [pickF]
theorem pick_at {D : List Dm} {c : Con} {i : Nat} (h : i < c.vars.length) : dm (pickF D c) i = dm D (vr c i) := by
  show (pickF D c).getD i [] = _
  unfold pickF
  rw [List.getD_eq_getElem?_getD, List.getElem?_map, List.getElem?_range h]; rfl
def PkL (W : World) (g m : Nat) (f : Nat → Dm) (v15 : Value) (wr : World) : Prop := ∃ k : Nat, k ≤ m ∧ v15 = .int .i64 (k : Int) ∧ DsF wr g m k f ∧ But g W wr
theorem alloc2 (w : World) (x y : Obj) : ((w.alloc x).alloc y).heap[w.heap.size]? = some x ∧ ((w.alloc x).alloc y).heap[w.heap.size + 1]? = some y ∧ Below w.heap.size w ((w.alloc x).alloc y) ∧ ((w.alloc x).alloc y).heap.size = w.heap.size + 2 := by
  have h := heap_alloc_new (w.alloc x) y
  rw [World.size_alloc] at h
  exact ⟨((below_new (w.alloc x) y).block _ (by simp)).trans (heap_alloc_new w x), h, over (below_new _ _) (below_new _ _), by simp⟩
theorem below_grown {w w' : World} (h : w.grownBy w' none) : Below w.heap.size w w' := ⟨h.os, h.tape, h.output, h.size, fun b hb => h.block b hb (by simp)⟩
theorem picked_any {w : World} {D : List Dm} {a : Option Addr} {n c0 : Nat} {vp : Value} {c : Con} {x1 x2 x3 x6 : Value} (h : DsA w D a) (hn : D.length = n) (hc : n ≤ c0) (hc2 : c0 ≤ 9223372036854775807) (hk : Kc w c x1 x2 x3 x6) (hv : VarsIn c n) (hm : c.vars.length ≤ 1000) :
    Calls Tryz.prog 132 #[.agg #[.slice a n c0, vp], .agg #[.int .i64 c.kind, x1, x2, x3, .int .i64 c.rel, .int .i64 c.bound, x6]] w fun e w' => ∃ v, e = .returned v ∧ DsV w' (pickF D c) v ∧ Below w.heap.size w w' := by
  obtain ⟨av, cv, rfl, l1, l2, hB⟩ := hk.vars.ex
  obtain ⟨m, hmm⟩ : ∃ m, c.vars.length = m := ⟨_, rfl⟩
  obtain ⟨b0, b1, b2, b3⟩ := alloc2 w (.cells #[.slice a n c0, vp] 86) (.cells #[.int .i64 c.kind, .slice av m cv, x2, x3, .int .i64 c.rel, .int .i64 c.bound, x6] 33)
  obtain ⟨i23, hi23, hz0, hz1, hz2⟩ := info_parts info23
  rw [hmm] at l1 hm ⊢
  have H := Lib.hid h; have HV := Lib.hid hv; have HB := Lib.hid hB; have MM := Lib.hid hmm; have DN := Lib.hid hn
  have B0 := Lib.hid b0; have B1 := Lib.hid b1; have B2 := Lib.hid b2; have B3 := Lib.hid b3
  clear h hv hB hmm hn b0 b1 b2 b3 hk
  go_enter Tryz.func132, Tryz.ntmps132
  go_upto_region 1 with fail
  generalize (w.alloc (.cells #[.slice a n c0, vp] 86)).alloc (.cells #[.int .i64 c.kind, .slice av m cv, x2, x3, .int .i64 c.rel, .int .i64 c.bound, x6] 33) = W0 at *
  have p1 : W0.cell? ⟨w.heap.size + 1, 1, none⟩ = some (.slice av m cv) := by rw [cell_of_row W0 _ 1 _ _ _ B1.out]; rfl
  go_upto_region 2 with (at_make; refine wpList_make_full _ rfl _ _ 28 rfl w.heap.size 23 i23 _ 1 Tryz.underlying28 hi23 hz0 hz1 .i64 .i64 _ _ m rfl rfl (by omega) (by omega) (by rw [hz2]; omega) (by unfold maxLen; omega) B2.out.size ?_; intro w1 hown1 hg1; obtain ⟨cf1, ge1⟩ := DsF.made (f := dm (pickF D c)) hown1; have F1 := Lib.hid cf1; have BB1 := Lib.hid (below_grown hg1); clear hown1 hg1 cf1 ge1)
  have G2 : Hid (W0.heap.size = w.heap.size + 2) := B3.out
  have p1 := cell_later BB1.out (Nat.le_refl _) p1
  rw [B3.out] at F1 ⊢
  go_wp2_with fail
  go_loopw [15] (fun v15 wr => PkL w1 (w.heap.size + 2) m (dm (pickF D c)) v15 wr) (fun v15 _ => m - (intOf v15).toNat)
  case atStart => exact ⟨0, Nat.zero_le _, rfl, F1.out, But.refl _ _⟩
  obtain ⟨k, hk, rfl, hF, hBt⟩ := hrel
  have F := Lib.hid hF; have BT := Lib.hid hBt
  clear hF hBt
  by_cases hlt : k < m
  · obtain ⟨gv, ov, rfl, -, dd⟩ := HB.out (by intro e; have := MM.out; rw [e] at this; simp at this; omega)
    have q0 := dd k (by rw [MM.out]; exact hlt)
    clear dd
    obtain ⟨hv1, hv2⟩ := HV.out k (by rw [MM.out]; exact hlt)
    have PA := Lib.hid (pick_at (D := D) (c := c) (i := k) (by rw [MM.out]; exact hlt))
    rw [hv1] at q0
    obtain ⟨v, hvv⟩ : ∃ v, vr c k = v := ⟨_, rfl⟩
    rw [hvv] at q0 hv2 PA
    clear hv1 hvv
    obtain ⟨gd, od, rfl, dd⟩ := H.out (by intro e; have := DN.out; rw [e] at this; simp at this; omega)
    obtain ⟨u, r0, r1⟩ := dd v (by rw [DN.out]; exact hv2)
    clear dd
    have BW : Hid (Below w.heap.size w w1) := over B2.out BB1.out
    have BR : Hid (Below w.heap.size w wr) := BT.out.below (by omega) BW.out.size BW.out
    have q0 := cell_later BR.out (Nat.le_refl _) q0
    have r0 := cell_later BR.out (Nat.le_refl _) r0
    have R1 := Lib.hid (r1.below BR.out)
    have s0 : wr.cell? ⟨w.heap.size, 0, none⟩ = some (.slice (some ⟨gd, od, none⟩) n c0) := by
      rw [cells_same (BT.out.block w.heap.size (by have := BW.out.size; have := BB1.out.size; have := B3.out; omega) (by omega)) 0, cells_same (BB1.out.block w.heap.size (by have := B3.out; omega)) 0, cell_of_row W0 _ 0 _ _ _ B0.out]; rfl
    obtain ⟨o1, t0⟩ := F.out.old k hlt
    have fz := F.out.blk.free k
    obtain ⟨ua, uc, rfl, -, -, -⟩ := r1.ex
    have NX := Lib.hid (F.out.set hlt (by rw [PA.out]; exact R1.out))
    have BX := Lib.hid (BT.out.trans (But.setCell (w.heap.size + 2) wr k (.slice ua (dm D v).length uc)))
    clear r1
    go_wp2_with fail
    go_roundw
    case rel => exact ⟨k + 1, by omega, by go_num, NX.out, BX.out⟩
    simp [intOf]; omega
  · obtain rfl : m = k := by omega
    go_wp2_with fail
    go_ret
    have BW : Below w.heap.size w w1 := over B2.out BB1.out
    exact ⟨_, rfl, F.out.v (by rw [pick_len]; exact MM.out) (by omega), BT.out.below (by omega) BW.size BW⟩
end Go.Proofs.YteiohgiecpibhaaGreat
set_option linter.unusedVariables false
set_option linter.unusedSimpArgs false
set_option maxRecDepth 100000
set_option maxHeartbeats 4000000
namespace Go.Proofs.YteiohgiecpibhaaGreat
open Go.RowKit Fdm

theorem set2 {w : World} {g t : Nat} {a b x y : Value} (h : w.heap[g]? = some (.cells #[a, b] t (0, 0))) : ((w.setCell ⟨g, 0, none⟩ x).setCell ⟨g, 1, none⟩ y).heap[g]? = some (.cells #[x, y] t (0, 0)) := by
  simp [World.setCell, Array.getElem?_modify, h]
theorem below_set2 {n : Nat} {w0 w : World} (h : Below n w0 w) {g : Nat} (hg : n ≤ g) (x y : Value) : Below n w0 ((w.setCell ⟨g, 0, none⟩ x).setCell ⟨g, 1, none⟩ y) :=
  (h.setCell (p := ⟨g, 0, none⟩) hg _).setCell (p := ⟨g, 1, none⟩) hg _
theorem oth_set2 {w : World} {g k : Nat} (hk : k ≠ g) (x y : Value) : ((w.setCell ⟨g, 0, none⟩ x).setCell ⟨g, 1, none⟩ y).heap[k]? = w.heap[k]? := by
  rw [heap_setCell_other _ ⟨g, 1, none⟩ _ _ hk, heap_setCell_other _ ⟨g, 0, none⟩ _ _ hk]
theorem DsG.oth {w w' : World} {g : Nat} {D : List Dm} (h : DsG w g D) (k : KpT w w') (e : w'.heap[g]? = w.heap[g]?) : DsG w' g D :=
  ⟨h.blk.keep e, fun i hi => by obtain ⟨u, p, q⟩ := h.cs i hi; exact ⟨u, (cells_same e i).trans p, q.kp k⟩⟩
/-- What is in blocks that none of the calls gets to is kept. -/
theorem DsO.oth {w w' : World} {base gx : Nat} {D : List Dm} {v : Value} (h : DsO w base D v) (hw : ∀ b, b ≠ gx → w'.heap[b]? = w.heap[b]?) (hx : Blk w gx 86) : DsO w' base D v := by
  obtain ⟨a, c, e, l1, l2, hG⟩ := h
  refine ⟨a, c, e, l1, l2, fun hne => ?_⟩
  obtain ⟨g, e, hb, G⟩ := hG hne
  have ne : ∀ {b ty : Nat}, Blk w b ty → ty ≠ 86 → b ≠ gx := fun hb ht q => (hb.ne (q ▸ hx) ht) rfl
  refine ⟨g, e, hb, G.blk.keep (hw g (ne G.blk (by decide))), fun i hi => ?_⟩
  obtain ⟨u, p, q⟩ := G.cs i hi
  refine ⟨u, (cells_same (hw g (ne G.blk (by decide))) i).trans p, ?_⟩
  obtain ⟨a', c', e', m1, m2, hB⟩ := q.ex
  refine ⟨a', c', e', m1, m2, fun hd => ?_⟩
  obtain ⟨gd, od, ed, bd, k⟩ := hB hd
  exact ⟨gd, od, ed, bd.keep (hw gd (ne bd (by decide))), fun j hj => ⟨(cells_same (hw gd (ne bd (by decide))) _).trans (k j hj).1, (cells_same (hw gd (ne bd (by decide))) _).trans (k j hj).2⟩⟩
theorem copied_any {w : World} {D : List Dm} {a pa : Option Addr} {n c0 pn pc : Nat} (h : DsA w D a) (hn : D.length = n) (hc : n ≤ c0) (hc2 : c0 ≤ 9223372036854775807) (hp : pn ≤ pc) (hp2 : pc ≤ 9223372036854775807) (h1000 : n ≤ 1000) :
    Calls Tryz.prog 65 #[.agg #[.slice a n c0, .slice pa pn pc]] w fun e w' => ∃ v', e = .returned (.agg #[v', .slice pa pn pn]) ∧ DsO w' w.heap.size D v' ∧ Below w.heap.size w w' := by
  obtain ⟨b0, b1, b2, b3⟩ := alloc2 w (.cells #[.slice a n c0, .slice pa pn pc] 86) (.cells #[.slice none 0 0, .slice none 0 0] 86)
  have H := Lib.hid h; have DN := Lib.hid hn
  have B0 := Lib.hid b0; have B1 := Lib.hid b1; have B2 := Lib.hid b2; have B3 := Lib.hid b3
  clear h hn b0 b1 b2 b3
  go_enter Tryz.func65, Tryz.ntmps65
  go_upto_region 1 with fail
  generalize (w.alloc (.cells #[.slice a n c0, .slice pa pn pc] 86)).alloc (.cells #[.slice none 0 0, .slice none 0 0] 86) = W1 at *
  obtain ⟨g, hg⟩ : ∃ g, w.heap.size = g := ⟨_, rfl⟩
  rw [hg] at B0 B1 B3 ⊢
  have GG := Lib.hid hg
  clear hg
  have p0 : W1.cell? ⟨g, 0, none⟩ = some (.slice a n c0) := by rw [cell_of_row W1 g 0 _ _ _ B0.out]; rfl
  have p1 : W1.cell? ⟨g, 1, none⟩ = some (.slice pa pn pc) := by rw [cell_of_row W1 g 1 _ _ _ B0.out]; rfl
  refine Rg.s0 7 [] fun WD DW => ?_
  refine Rg.t 0 ?_
  refine Rg.t 1 ?_
  refine Rg.t 3 ?_
  refine Rg.t 4 ?_
  refine Rg.c1 2 fun K' hK => ?_
  go_simp
  go_at_call 99
  refine (cloneDs_any (H.out.below (over B2.out DW)) DN.out h1000).mono ?_
  rintro e w2 ⟨v', rfl, hO, hb⟩
  obtain ⟨va, vc, rfl, l1, l2, hG⟩ := hO
  have D2 := over DW hb
  refine Rg.e1 hK D2 ?_
  clear hK K'
  refine Rg.c1 5 fun K' hK => ?_
  go_simp
  go_at_call 100
  refine (clipPs_any hp hp2).mono ?_
  rintro e w3 ⟨rfl, rfl⟩
  refine Rg.e1 hK D2 ?_
  clear hK K'
  refine Rg.t 6 ?_
  have q0 : w3.heap[g + 1]? = some (.cells #[.slice none 0 0, .slice none 0 0] 86 (0, 0)) := (D2.block (g + 1) (by have := B3.out; omega)).trans B1.out
  have z0 : w3.cell? ⟨g + 1, 0, none⟩ = some (.slice none 0 0) := by rw [cell_of_row w3 _ 0 _ _ _ q0]; rfl
  have z1 : w3.cell? ⟨g + 1, 1, none⟩ = some (.slice none 0 0) := by rw [cell_of_row w3 _ 1 _ _ _ q0]; rfl
  have f0 : w3.frozen? ⟨g + 1, 0, none⟩ = false := by simp [World.frozen?, q0]
  have f1 : w3.frozen? ⟨g + 1, 1, none⟩ = false := by simp [World.frozen?, q0]
  obtain ⟨W9, hW9⟩ : ∃ W9, ((w3.setCell ⟨g + 1, 0, none⟩ (.slice va D.length vc)).setCell ⟨g + 1, 1, none⟩ (.slice pa pn pn)) = W9 := ⟨_, rfl⟩
  have S9 : W9.heap[g + 1]? = some (.cells #[.slice va D.length vc, .slice pa pn pn] 86 (0, 0)) := by rw [← hW9]; exact set2 q0
  have r0 : W9.cell? ⟨g + 1, 0, none⟩ = some (.slice va D.length vc) := by rw [cell_of_row W9 _ 0 _ _ _ S9]; rfl
  have r1 : W9.cell? ⟨g + 1, 1, none⟩ = some (.slice pa pn pn) := by rw [cell_of_row W9 _ 1 _ _ _ S9]; rfl
  have O9 : Hid (DsO W9 w.heap.size D (.slice va D.length vc)) := by
    have O2 : DsO w3 w.heap.size D (.slice va D.length vc) := ⟨va, vc, rfl, l1, l2, fun hne => by
      obtain ⟨g', e, h1, h2⟩ := hG hne
      exact ⟨g', e, by have := (over B2.out DW).size; omega, h2⟩⟩
    exact O2.oth (gx := g + 1) (fun b hb => by rw [← hW9]; exact oth_set2 hb _ _) ⟨_, q0⟩
  have B9 : Hid (Below w.heap.size w W9) := by show Below _ _ _; rw [← hW9]; exact below_set2 (over B2.out D2) (by have := GG.out; omega) _ _
  refine Rg.l1 ?_
  (try simp only [zA, zB, zC])
  go_simp
  go_wp2_with fail
  refine bodyPost_ret (v := .agg #[.slice va D.length vc, .slice pa pn pn]) (by simp [results, Tryz.results65, go_sem, r0, r1]) rfl ?_
  exact ⟨_, rfl, O9.out, B9.out⟩
end Go.Proofs.YteiohgiecpibhaaGreat
set_option linter.unusedVariables false
set_option linter.unusedSimpArgs false
set_option maxRecDepth 100000
set_option maxHeartbeats 4000000
namespace Go.Proofs.YteiohgiecpibhaaGreat
open Go.RowKit Fdm

/-- Marks in a block of their own. -/
structure BoF (w : World) (g : Nat) (l : List Bool) : Prop where
  blk : Blk w g 4
  cs : ∀ i, i < l.length → w.cell? ⟨g, i, none⟩ = some (.bool (l.getD i false))
theorem BoF.keep {w w' : World} {g : Nat} {l : List Bool} (h : BoF w g l) (e : w'.heap[g]? = w.heap[g]?) : BoF w' g l := ⟨h.blk.keep e, fun i hi => (cells_same e i).trans (h.cs i hi)⟩
theorem BoF.below {w w' : World} {g : Nat} {l : List Bool} (h : BoF w g l) (hb : Below w.heap.size w w') : BoF w' g l := h.keep (hb.block _ h.blk.lt)
theorem BoF.set {w : World} {g i : Nat} {l : List Bool} (h : BoF w g l) (hi : i < l.length) (b : Bool) : BoF (w.setCell ⟨g, i, none⟩ (.bool b)) g (l.set i b) := by
  refine ⟨h.blk.setCell _ _ _, fun j hj => ?_⟩
  rw [List.length_set] at hj
  by_cases e : j = i
  · subst e
    rw [World.cell?_setCell_same' _ _ _ (by rw [h.cs j hj]; rfl), List.getD_eq_getElem?_getD, List.getElem?_set_self hj]; rfl
  · rw [World.cell?_setCell_other _ _ _ _ (by intro q; injection q with _ q _; omega), h.cs j hj, List.getD_eq_getElem?_getD, List.getD_eq_getElem?_getD, List.getElem?_set_ne (Ne.symm e)]
theorem firstT_from : ∀ (l : List Bool) (j : Nat), firstT l j = (firstT l 0).map (· + j)
  | [], _ => rfl
  | true :: l, j => by simp [firstT]
  | false :: l, j => by
    simp only [firstT, Bool.false_eq_true, if_false]
    rw [firstT_from l (j + 1), firstT_from l (0 + 1), Option.map_map]
    congr 1
    funext x
    simp; omega
theorem firstT_some : ∀ {l : List Bool} {k : Nat}, (∀ i, i < k → l.getD i false = false) → k < l.length → l.getD k false = true → firstT l 0 = some k
  | [], k, _, h, _ => absurd h (Nat.not_lt_zero _)
  | b :: l, 0, _, _, h => by
    have : b = true := h
    subst this; rfl
  | b :: l, k + 1, f, h, e => by
    have hb : b = false := f 0 (by omega)
    subst hb
    have := firstT_some (l := l) (k := k) (fun i hi => f (i + 1) (by omega)) (by simpa using h) e
    simp only [firstT, Bool.false_eq_true, if_false]
    rw [firstT_from, this]; rfl
theorem firstT_none : ∀ {l : List Bool}, (∀ i, i < l.length → l.getD i false = false) → firstT l 0 = none
  | [], _ => rfl
  | b :: l, f => by
    have hb : b = false := f 0 (by simp)
    subst hb
    have := firstT_none (l := l) (fun i hi => f (i + 1) (by simp; omega))
    simp only [firstT, Bool.false_eq_true, if_false]
    rw [firstT_from, this]; rfl
def idxT (l : List Bool) : Int := match firstT l 0 with | none => -1 | some i => (i : Int)
def IxL (w : World) (l : List Bool) (v8 : Value) (wr : World) : Prop := ∃ k : Nat, k ≤ l.length ∧ v8 = .int .i64 (k : Int) ∧ (∀ i, i < k → l.getD i false = false) ∧ wr = w
theorem index_any {w : World} {g n : Nat} {l : List Bool} (h : BoF w g l) (hn : l.length = n) (h1 : n ≤ 9223372036854775807) : Calls Tryz.prog 113 #[.slice (some ⟨g, 0, none⟩) n n, .bool true] w fun e w' => e = .returned (.int .i64 (idxT l)) ∧ w' = w := by
  have H := Lib.hid h; have N := Lib.hid hn
  clear h hn
  go_enter Tryz.func113, Tryz.ntmps113
  go_wp2_with fail
  go_loopw [8] (fun v8 wr => IxL w l v8 wr) (fun v8 _ => n - (intOf v8).toNat)
  case atStart => exact ⟨0, Nat.zero_le _, rfl, fun i hi => absurd hi (Nat.not_lt_zero _), rfl⟩
  obtain ⟨k, hk, rfl, hf, rfl⟩ := hrel
  have F := Lib.hid hf
  rw [N.out] at hk
  clear hf
  by_cases hlt : k < n
  · have p0 := H.out.cs k (by rw [N.out]; exact hlt)
    obtain ⟨b, hb⟩ : ∃ b, l.getD k false = b := ⟨_, rfl⟩
    rw [hb] at p0
    cases b with
    | true =>
      have E : Hid (idxT l = (k : Int)) := by show _ = _; unfold idxT; rw [firstT_some F.out (by rw [N.out]; exact hlt) hb]
      clear hb
      go_wp2_with fail
      go_ret
      exact ⟨by rw [E.out]; rfl, rfl⟩
    | false =>
      have G : Hid (∀ i, i < k + 1 → l.getD i false = false) := fun i hi => by
        by_cases e : i = k
        · subst e; exact hb
        · exact F.out i (by omega)
      clear hb
      go_wp2_with fail
      go_roundw
      case rel => exact ⟨k + 1, by rw [N.out]; omega, by go_num, G.out, rfl⟩
      simp [intOf]; omega
  · obtain rfl : n = k := by omega
    have E : Hid (idxT l = -1) := by show _ = _; unfold idxT; rw [firstT_none (by rw [N.out]; exact F.out)]
    go_wp2_with fail
    go_ret
    exact ⟨by rw [E.out]; rfl, rfl⟩

/-- Numbers in memory, of whatever kind the block is. -/
def InA (w : World) (l : List Int) (a : Option Addr) : Prop := l ≠ [] → ∃ g o, a = some ⟨g, o, none⟩ ∧ ∀ i, i < l.length → w.cell? ⟨g, o + i, none⟩ = some (.int .i64 (l.getD i 0))
theorem InB.a {w : World} {l : List Int} {a : Option Addr} (h : InB w l a) : InA w l a := fun hne => by obtain ⟨g, o, e, _, k⟩ := h hne; exact ⟨g, o, e, k⟩
theorem InA.below {w w' : World} {l : List Int} {a : Option Addr} (h : InA w l a) (hb : Below w.heap.size w w') : InA w' l a := fun hne => by
  obtain ⟨g, o, e, k⟩ := h hne
  exact ⟨g, o, e, fun i hi => cell_later hb (Nat.le_refl _) (k i hi)⟩
def CoL (w : World) (l : List Int) (v : Int) (v8 : Value) (wr : World) : Prop := ∃ k : Nat, k ≤ l.length ∧ v8 = .int .i64 (k : Int) ∧ (∀ i, i < k → l.getD i 0 ≠ v) ∧ wr = w
theorem getD_mem {l : List Int} {k : Nat} (h : k < l.length) : l.getD k 0 ∈ l := by rw [List.getD_eq_getElem?_getD, List.getElem?_eq_getElem h]; exact List.getElem_mem h
theorem indexI_any {w : World} {l : List Int} {a : Option Addr} {n c : Nat} (v : Int) (h : InA w l a) (hn : l.length = n) (h0 : n ≤ c) (h1 : c ≤ 9223372036854775807) : Calls Tryz.prog 90 #[.slice a n c, .int .i64 v] w fun e w' => (∃ x : Int, e = .returned (.int .i64 x) ∧ (0 ≤ x ↔ v ∈ l)) ∧ w' = w := by
  have H := Lib.hid h; have N := Lib.hid hn
  clear h hn
  go_enter Tryz.func90, Tryz.ntmps90
  go_wp2_with fail
  go_loopw [8] (fun v8 wr => CoL w l v v8 wr) (fun v8 _ => n - (intOf v8).toNat)
  case atStart => exact ⟨0, Nat.zero_le _, rfl, fun i hi => absurd hi (Nat.not_lt_zero _), rfl⟩
  obtain ⟨k, hk, rfl, hf, rfl⟩ := hrel
  have F := Lib.hid hf
  rw [N.out] at hk
  clear hf
  by_cases hlt : k < n
  · obtain ⟨g, o, rfl, dd⟩ := H.out (by intro e; have := N.out; rw [e] at this; simp at this; omega)
    have p0 := dd k (by rw [N.out]; exact hlt)
    clear dd
    have MM := Lib.hid (getD_mem (l := l) (k := k) (by rw [N.out]; exact hlt))
    obtain ⟨b, hb⟩ : ∃ b, l.getD k 0 = b := ⟨_, rfl⟩
    rw [hb] at p0 MM
    by_cases vb : v = b
    · subst vb
      clear hb
      go_wp2_with fail
      go_ret
      exact ⟨⟨k, rfl, ⟨fun _ => MM.out, fun _ => by omega⟩⟩, rfl⟩
    · have G : Hid (∀ i, i < k + 1 → l.getD i 0 ≠ v) := fun i hi => by
        by_cases e : i = k
        · subst e; rw [hb]; exact fun q => vb q.symm
        · exact F.out i (by omega)
      have vb' : (v == b) = false := by simpa using vb
      clear hb vb
      go_wp2_with fail
      go_roundw
      case rel => exact ⟨k + 1, by rw [N.out]; omega, by go_num, G.out, rfl⟩
      simp [intOf]; omega
  · obtain rfl : n = k := by omega
    go_wp2_with fail
    go_ret
    refine ⟨⟨-1, rfl, ⟨fun q => absurd q (by omega), fun q => ?_⟩⟩, rfl⟩
    obtain ⟨i, hi, e⟩ := List.getElem_of_mem q
    exact absurd (by rw [List.getD_eq_getElem?_getD, List.getElem?_eq_getElem hi]; exact e) (F.out i (by rw [N.out] at hi; exact hi))
theorem contains_any {w : World} {l : List Int} {a : Option Addr} {n c : Nat} (v : Int) (h : InA w l a) (hn : l.length = n) (h0 : n ≤ c) (h1 : c ≤ 9223372036854775807) : Calls Tryz.prog 56 #[.slice a n c, .int .i64 v] w fun e w' => e = .returned (.bool (l.contains v)) ∧ w' = w := by
  have C := Lib.hid (indexI_any v h hn h0 h1)
  clear h hn
  go_enter Tryz.func56, Tryz.ntmps56
  go_wp2_with fail
  refine C.out.mono ?_
  rintro e w2 ⟨⟨x, rfl, hx⟩, rfl⟩
  have X : Hid (l.contains v = decide (0 ≤ x)) := by show _ = _; rw [Bool.eq_iff_iff, decide_eq_true_eq, hx]; simp
  clear hx
  go_wp2_with fail
  go_ret
  exact ⟨by rw [X.out]; rfl, rfl⟩
end Go.Proofs.YteiohgiecpibhaaGreat
