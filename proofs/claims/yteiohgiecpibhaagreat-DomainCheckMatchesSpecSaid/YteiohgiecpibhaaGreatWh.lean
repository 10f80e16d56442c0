/- Numbers, constraints and lists of domains in memory, kept where only lists of domains are written; state.picked, state.copied, ruleOf. -/
import Derived.Test.YteiohgiecpibhaaGreatWg
set_option linter.unusedVariables false
set_option linter.unusedSimpArgs false
set_option maxRecDepth 100000
set_option maxHeartbeats 4000000
namespace Go.Proofs.YteiohgiecpibhaaGreat
open Go.RowKit Fdm

/-- What is in blocks of another kind than lists of domains is kept. -/
def KpT (w w' : World) : Prop := ∀ b ty, Blk w b ty → ty ≠ 23 → w'.heap[b]? = w.heap[b]?
theorem KpT.refl (w : World) : KpT w w := fun _ _ _ _ => rfl
theorem KpT.trans {a b c : World} (h : KpT a b) (k : KpT b c) : KpT a c := fun g ty hb ht => (k g ty (hb.keep (h g ty hb ht)) ht).trans (h g ty hb ht)
theorem KpT.of_below {w w' : World} (h : Below w.heap.size w w') : KpT w w' := fun _ _ hb _ => h.block _ hb.lt
/-- All but block g is kept. -/
structure But (g : Nat) (w w' : World) : Prop where
  os : w'.os = w.os
  tape : w'.tape = w.tape
  output : w'.output = w.output
  size : w.heap.size ≤ w'.heap.size
  block : ∀ b, b < w.heap.size → b ≠ g → w'.heap[b]? = w.heap[b]?
theorem But.refl (g : Nat) (w : World) : But g w w := ⟨rfl, rfl, rfl, Nat.le_refl _, fun _ _ _ => rfl⟩
theorem But.trans {g : Nat} {a b c : World} (h : But g a b) (k : But g b c) : But g a c :=
  ⟨k.os.trans h.os, k.tape.trans h.tape, k.output.trans h.output, Nat.le_trans h.size k.size, fun x hx hg => (k.block x (Nat.lt_of_lt_of_le hx h.size) hg).trans (h.block x hx hg)⟩
theorem But.of_below {g : Nat} {w w' : World} (h : Below w.heap.size w w') : But g w w' := ⟨h.os, h.tape, h.output, h.size, fun b hb _ => h.block b hb⟩
theorem But.setCell (g : Nat) (w : World) (i : Nat) (v : Value) : But g w (w.setCell ⟨g, i, none⟩ v) := by
  have := (Below.refl 0 w).setCell (p := ⟨g, i, none⟩) (Nat.zero_le _) v
  exact ⟨this.os, this.tape, this.output, this.size, fun b _ hg => heap_setCell_other _ _ _ _ hg⟩
theorem But.below {g n : Nat} {w0 w w' : World} (h : But g w w') (hg : n ≤ g) (hn : n ≤ w.heap.size) (B : Below n w0 w) : Below n w0 w' :=
  ⟨h.os.trans B.os, h.tape.trans B.tape, h.output.trans B.output, Nat.le_trans B.size h.size, fun b hb => (h.block b (Nat.lt_of_lt_of_le hb hn) (by omega)).trans (B.block b hb)⟩
theorem But.kp {g : Nat} {w w' : World} (h : But g w w') (hg : Blk w g 23) : KpT w w' := fun b ty hb ht => h.block b hb.lt fun e => (hb.ne (e ▸ hg) ht) rfl
theorem cells_kp {w w' : World} {b ty : Nat} (h : KpT w w') (hb : Blk w b ty) (ht : ty ≠ 23) {o : Nat} {v : Value} (hc : w.cell? ⟨b, o, none⟩ = some v) : w'.cell? ⟨b, o, none⟩ = some v := (cells_same (h b ty hb ht) o).trans hc
theorem DmV.kp {w w' : World} {d : Dm} {v : Value} (h : DmV w d v) (k : KpT w w') : DmV w' d v := by
  obtain ⟨a, c, e, h1, h2, h3⟩ := h.ex
  refine ⟨a, c, e, h1, h2, fun hne => ?_⟩
  obtain ⟨g, o, e, b, q⟩ := h3 hne
  exact ⟨g, o, e, b.keep (k g 63 b (by decide)), fun i hi => ⟨cells_kp k b (by decide) (q i hi).1, cells_kp k b (by decide) (q i hi).2⟩⟩
/-- Numbers in memory of their own kind. -/
def InB (w : World) (l : List Int) (a : Option Addr) : Prop := l ≠ [] → ∃ g o, a = some ⟨g, o, none⟩ ∧ Blk w g 3 ∧ ∀ i, i < l.length → w.cell? ⟨g, o + i, none⟩ = some (.int .i64 (l.getD i 0))
structure InV (w : World) (l : List Int) (v : Value) : Prop where
  ex : ∃ a c, v = .slice a l.length c ∧ l.length ≤ c ∧ c ≤ 9223372036854775807 ∧ InB w l a
theorem InV.kp {w w' : World} {l : List Int} {v : Value} (h : InV w l v) (k : KpT w w') : InV w' l v := by
  obtain ⟨a, c, e, h1, h2, h3⟩ := h.ex
  refine ⟨a, c, e, h1, h2, fun hne => ?_⟩
  obtain ⟨g, o, e, b, q⟩ := h3 hne
  exact ⟨g, o, e, b.keep (k g 3 b (by decide)), fun i hi => cells_kp k b (by decide) (q i hi)⟩
theorem InV.nil (w : World) : InV w [] (.slice none 0 0) := ⟨none, 0, rfl, Nat.le_refl _, by omega, fun h => absurd rfl h⟩
def TuV (w : World) (T : List (List Int)) (v : Value) : Prop := ∃ a c, v = .slice a T.length c ∧ T.length ≤ c ∧ c ≤ 9223372036854775807 ∧ (T ≠ [] → ∃ g o, a = some ⟨g, o, none⟩ ∧ Blk w g 30 ∧ ∀ i, i < T.length → ∃ u, w.cell? ⟨g, o + i, none⟩ = some u ∧ InV w (T.getD i []) u)
theorem TuV.kp {w w' : World} {T : List (List Int)} {v : Value} (h : TuV w T v) (k : KpT w w') : TuV w' T v := by
  obtain ⟨a, c, e, h1, h2, h3⟩ := h
  refine ⟨a, c, e, h1, h2, fun hne => ?_⟩
  obtain ⟨g, o, e, b, q⟩ := h3 hne
  refine ⟨g, o, e, b.keep (k g 30 b (by decide)), fun i hi => ?_⟩
  obtain ⟨u, p, r⟩ := q i hi
  exact ⟨u, cells_kp k b (by decide) p, r.kp k⟩
theorem TuV.nil (w : World) : TuV w [] (.slice none 0 0) := ⟨none, 0, rfl, Nat.le_refl _, by omega, fun h => absurd rfl h⟩
/-- The lists of a constraint. -/
structure Kc (w : World) (c : Con) (x1 x2 x3 x6 : Value) : Prop where
  vars : InV w c.vars x1
  coefs : InV w c.coefs x2
  needs : InV w c.needs x3
  tups : TuV w c.tuples x6
theorem Kc.kp {w w' : World} {c : Con} {x1 x2 x3 x6 : Value} (h : Kc w c x1 x2 x3 x6) (k : KpT w w') : Kc w' c x1 x2 x3 x6 := ⟨h.vars.kp k, h.coefs.kp k, h.needs.kp k, h.tups.kp k⟩
/-- Constraints in memory. -/
def PsB (w : World) (P : List Con) (a : Option Addr) : Prop := P ≠ [] → ∃ g o, a = some ⟨g, o, none⟩ ∧ Blk w g 33 ∧ ∀ i, i < P.length → ∃ x1 x2 x3 x6,
  w.cell? ⟨g, o + i * 7, none⟩ = some (.int .i64 (con P i).kind) ∧ w.cell? ⟨g, o + i * 7 + 1, none⟩ = some x1 ∧ w.cell? ⟨g, o + i * 7 + 2, none⟩ = some x2 ∧ w.cell? ⟨g, o + i * 7 + 3, none⟩ = some x3 ∧
  w.cell? ⟨g, o + i * 7 + 4, none⟩ = some (.int .i64 (con P i).rel) ∧ w.cell? ⟨g, o + i * 7 + 5, none⟩ = some (.int .i64 (con P i).bound) ∧ w.cell? ⟨g, o + i * 7 + 6, none⟩ = some x6 ∧ Kc w (con P i) x1 x2 x3 x6
structure PsV (w : World) (P : List Con) (v : Value) : Prop where
  ex : ∃ a c, v = .slice a P.length c ∧ P.length ≤ c ∧ c ≤ 9223372036854775807 ∧ PsB w P a
theorem PsB.kp {w w' : World} {P : List Con} {a : Option Addr} (h : PsB w P a) (k : KpT w w') : PsB w' P a := fun hne => by
  obtain ⟨g, o, e, b, q⟩ := h hne
  refine ⟨g, o, e, b.keep (k g 33 b (by decide)), fun i hi => ?_⟩
  obtain ⟨x1, x2, x3, x6, p0, p1, p2, p3, p4, p5, p6, r⟩ := q i hi
  exact ⟨x1, x2, x3, x6, cells_kp k b (by decide) p0, cells_kp k b (by decide) p1, cells_kp k b (by decide) p2, cells_kp k b (by decide) p3, cells_kp k b (by decide) p4, cells_kp k b (by decide) p5, cells_kp k b (by decide) p6, r.kp k⟩
theorem PsV.kp {w w' : World} {P : List Con} {v : Value} (h : PsV w P v) (k : KpT w w') : PsV w' P v := by
  obtain ⟨a, c, e, h1, h2, h3⟩ := h.ex
  exact ⟨a, c, e, h1, h2, h3.kp k⟩
/-- Domains of a list in a block of its own. -/
theorem DsG.set {w : World} {g i : Nat} {D : List Dm} {d : Dm} {u : Value} (h : DsG w g D) (hi : i < D.length) (hu : DmV w d u) : DsG (w.setCell ⟨g, i, none⟩ u) g (D.set i d) := by
  have K : KpT w (w.setCell ⟨g, i, none⟩ u) := (But.setCell g w i u).kp h.blk
  refine ⟨h.blk.setCell _ _ _, fun j hj => ?_⟩
  rw [List.length_set] at hj
  obtain ⟨x, p, q⟩ := h.cs j hj
  by_cases e : j = i
  · subst e
    refine ⟨u, World.cell?_setCell_same' _ _ _ (by rw [p]; rfl), ?_⟩
    have : dm (D.set j d) j = d := by unfold dm; rw [List.getD_eq_getElem?_getD, List.getElem?_set_self hj]; rfl
    rw [this]; exact hu.kp K
  · refine ⟨x, ?_, ?_⟩
    · rw [World.cell?_setCell_other _ _ _ _ (by intro q; injection q with _ q _; omega)]; exact p
    · have : dm (D.set i d) j = dm D j := by unfold dm; rw [List.getD_eq_getElem?_getD, List.getD_eq_getElem?_getD, List.getElem?_set_ne (Ne.symm e)]
      rw [this]; exact q.kp K
theorem DsG.below {w w' : World} {g : Nat} {D : List Dm} (h : DsG w g D) (hb : Below w.heap.size w w') : DsG w' g D :=
  ⟨h.blk.keep (hb.block _ h.blk.lt), fun i hi => by obtain ⟨u, p, q⟩ := h.cs i hi; exact ⟨u, cell_later hb (Nat.le_refl _) p, q.below hb⟩⟩
/-- A list of domains being filled. -/
structure DsF (w : World) (g n k : Nat) (f : Nat → Dm) : Prop where
  blk : Blk w g 23
  old : ∀ i, i < n → ∃ u, w.cell? ⟨g, i, none⟩ = some u
  cs : ∀ i, i < k → ∃ u, w.cell? ⟨g, i, none⟩ = some u ∧ DmV w (f i) u
theorem DsF.below {w w' : World} {g n k : Nat} {f : Nat → Dm} (h : DsF w g n k f) (hb : Below w.heap.size w w') : DsF w' g n k f :=
  ⟨h.blk.keep (hb.block _ h.blk.lt), fun i hi => by obtain ⟨u, p⟩ := h.old i hi; exact ⟨u, cell_later hb (Nat.le_refl _) p⟩, fun i hi => by obtain ⟨u, p, q⟩ := h.cs i hi; exact ⟨u, cell_later hb (Nat.le_refl _) p, q.below hb⟩⟩
theorem DsF.set {w : World} {g n k : Nat} {f : Nat → Dm} {u : Value} (h : DsF w g n k f) (hk : k < n) (hu : DmV w (f k) u) : DsF (w.setCell ⟨g, k, none⟩ u) g n (k + 1) f := by
  have K : KpT w (w.setCell ⟨g, k, none⟩ u) := (But.setCell g w k u).kp h.blk
  obtain ⟨x0, p0⟩ := h.old k hk
  have same : (w.setCell ⟨g, k, none⟩ u).cell? ⟨g, k, none⟩ = some u := World.cell?_setCell_same' _ _ _ (by rw [p0]; rfl)
  have oth : ∀ i, i ≠ k → (w.setCell ⟨g, k, none⟩ u).cell? ⟨g, i, none⟩ = w.cell? ⟨g, i, none⟩ := fun i e => World.cell?_setCell_other _ _ _ _ (by intro q; injection q with _ q _; omega)
  refine ⟨h.blk.setCell _ _ _, fun i hi => ?_, fun i hi => ?_⟩
  · by_cases e : i = k
    · subst e; exact ⟨u, same⟩
    · obtain ⟨x, p⟩ := h.old i hi
      exact ⟨x, (oth i e).trans p⟩
  · by_cases e : i = k
    · subst e; exact ⟨u, same, hu.kp K⟩
    · obtain ⟨x, p, q⟩ := h.cs i (by omega)
      exact ⟨x, (oth i e).trans p, q.kp K⟩
theorem DsF.made {w : World} {base g n : Nat} {f : Nat → Dm} (h : w.ownsRow base 23 1 (.slice (some ⟨g, 0, none⟩) n n) n (madeCells (Value.slice none 0 0).cells (n * 1)).toList) : DsF w g n 0 f ∧ base ≤ g := by
  rcases h.2 with ⟨e, _⟩ | ⟨g', cap, cur, e, hb, hg, hnc, hcm, hcs, htake⟩
  · simp at e
  · simp only [Value.slice.injEq, Option.some.injEq, Addr.mk.injEq] at e
    obtain ⟨⟨rfl, -⟩, -, rfl⟩ := e
    refine ⟨⟨⟨_, hg⟩, fun i hi => ?_, fun i hi => absurd hi (Nat.not_lt_zero _)⟩, hb⟩
    rw [cell_of_row _ _ _ _ _ _ hg]
    exact ⟨cur[i]'(by rw [hcs]; omega), by simp⟩
theorem DsF.v {w : World} {g n : Nat} {X : List Dm} (h : DsF w g n n (dm X)) (hn : X.length = n) (hc : n ≤ 1000000) : DsV w X (.slice (some ⟨g, 0, none⟩) n n) :=
  ⟨some ⟨g, 0, none⟩, n, by rw [hn], by omega, by omega, fun _ => ⟨g, 0, rfl, fun i hi => by obtain ⟨u, p, q⟩ := h.cs i (by omega); exact ⟨u, by rw [Nat.zero_add]; exact p, q⟩⟩⟩
theorem ruleOf_any (k : Nat) (h1 : 1 ≤ k) (h2 : k ≤ 10) (w : World) : Calls Tryz.prog 133 #[.int .i64 (k : Int)] w fun e w' => e = .returned (.func (.func (148 + k)) #[] #[]) ∧ Below w.heap.size w w' := by
  obtain rfl | rfl | rfl | rfl | rfl | rfl | rfl | rfl | rfl | rfl : k = 1 ∨ k = 2 ∨ k = 3 ∨ k = 4 ∨ k = 5 ∨ k = 6 ∨ k = 7 ∨ k = 8 ∨ k = 9 ∨ k = 10 := by omega
  all_goals
    go_enter Tryz.func133, Tryz.ntmps133
    go_wp2_with fail
    go_ret
    exact ⟨rfl, below_new _ _⟩
end Go.Proofs.YteiohgiecpibhaaGreat
