/- Domains that are built span by span; span, least, fixed, size, meet. -/
import Derived.Test.YteiohgiecpibhaaGreatWa
set_option linter.unusedVariables false
set_option linter.unusedSimpArgs false
set_option maxRecDepth 100000
set_option maxHeartbeats 4000000
namespace Go.Proofs.YteiohgiecpibhaaGreat
open Go.RowKit Fdm

theorem info63 : (Tryz.prog.info? 63).map (fun i => (i.zero, i.size, i.bytes)) = some (some (.agg #[.int .i64 0, .int .i64 0]), 2, 16) := by kernel_rfl
def spv (d : Dm) : List Value := d.flatMap fun s => [.int .i64 s.1, .int .i64 s.2]
theorem spv_app (d : Dm) (s : Sp) : spv (d ++ [s]) = spv d ++ [.int .i64 s.1, .int .i64 s.2] := by simp [spv]
theorem spv_len (d : Dm) : (spv d).length = d.length * 2 := by
  induction d with
  | nil => rfl
  | cons s d ih => simp only [spv, List.flatMap_cons, List.length_append, List.length_cons, List.length_nil] at ih ⊢; omega
theorem spv_at : ∀ (d : Dm) (i : Nat), i < d.length → (spv d)[i * 2]? = some (.int .i64 (sp d i).1) ∧ (spv d)[i * 2 + 1]? = some (.int .i64 (sp d i).2)
  | [], i, h => absurd h (Nat.not_lt_zero _)
  | s :: d, 0, _ => ⟨rfl, rfl⟩
  | s :: d, i + 1, h => by
    have := spv_at d i (by simpa using h)
    rw [show (i + 1) * 2 = i * 2 + 2 from by omega]
    exact this
/-- A domain in memory of its own kind. -/
def DmB (w : World) (d : Dm) (a : Option Addr) : Prop :=
  d ≠ [] → ∃ g o, a = some ⟨g, o, none⟩ ∧ Blk w g 63 ∧ ∀ i, i < d.length → w.cell? ⟨g, o + i * 2, none⟩ = some (.int .i64 (sp d i).1) ∧ w.cell? ⟨g, o + i * 2 + 1, none⟩ = some (.int .i64 (sp d i).2)
theorem DmB.at_ {w : World} {d : Dm} {a : Option Addr} (h : DmB w d a) : DmAt w d a := fun hne => by
  obtain ⟨g, o, e, _, k⟩ := h hne
  exact ⟨g, o, e, k⟩
theorem DmB.below {w w' : World} {d : Dm} {a : Option Addr} (h : DmB w d a) (hb : Below w.heap.size w w') : DmB w' d a := fun hne => by
  obtain ⟨g, o, e, b, k⟩ := h hne
  exact ⟨g, o, e, b.keep (hb.block _ b.lt), fun i hi => ⟨cell_later hb (Nat.le_refl _) (k i hi).1, cell_later hb (Nat.le_refl _) (k i hi).2⟩⟩
theorem DmB.nil (w : World) (a : Option Addr) : DmB w [] a := fun h => absurd rfl h
structure DmV (w : World) (d : Dm) (v : Value) : Prop where
  ex : ∃ a c, v = .slice a d.length c ∧ d.length ≤ c ∧ c ≤ 9223372036854775807 ∧ DmB w d a
theorem DmV.below {w w' : World} {d : Dm} {v : Value} (h : DmV w d v) (hb : Below w.heap.size w w') : DmV w' d v := by
  obtain ⟨a, c, e, h1, h2, h3⟩ := h.ex
  exact ⟨a, c, e, h1, h2, h3.below hb⟩
/-- One that is being built. -/
structure DmO (w : World) (base : Nat) (v : Value) (d : Dm) : Prop where
  op : OwP (fun _ => True) w base 63 2 v d.length (spv d)
theorem DmO.own {w : World} {base : Nat} {v : Value} {d : Dm} (h : DmO w base v d) : w.ownsRow base 63 2 v d.length (spv d) := h.op.own
theorem DmO.nil (w : World) (base : Nat) : DmO w base (.slice none 0 0) [] := ⟨OwP.nil _ w base 63 2⟩
/-- What an append to a row keeps, and where the row lies then. -/
structure Psh (w1 w' : World) (v v' : Value) : Prop where
  keep : ∀ b, b < w1.heap.size → v.ownBlock ≠ some b → w'.heap[b]? = w1.heap[b]?
  own : ∀ g, v'.ownBlock = some g → v.ownBlock = some g ∨ w1.heap.size ≤ g
  size : w1.heap.size ≤ w'.heap.size
theorem Psh.not {w1 w' : World} {v v' : Value} (h : Psh w1 w' v v') {g : Nat} (hg : g < w1.heap.size) (hn : v.ownBlock ≠ some g) : v'.ownBlock ≠ some g := fun e => by
  rcases h.own g e with q | q
  · exact hn q
  · omega
theorem DmO.below {w w' : World} {base : Nat} {v : Value} {d : Dm} (h : DmO w base v d) (hb : Below w.heap.size w w') : DmO w' base v d :=
  ⟨h.op.below hb⟩
theorem DmO.v {w : World} {base : Nat} {v : Value} {d : Dm} (h : DmO w base v d) (hl : d.length ≤ 8000000000000) : DmV w d v := by
  rcases h.own.2 with ⟨rfl, h0⟩ | ⟨g, cap, cur, rfl, hb, hg, hnc, hcm, hcs, htake⟩
  · have : d = [] := List.length_eq_zero_iff.1 h0
    subst this
    exact ⟨none, 0, rfl, Nat.le_refl _, by omega, DmB.nil _ _⟩
  · refine ⟨_, _, rfl, hnc, by unfold maxLen at hcm; omega, fun _ => ⟨g, 0, rfl, ⟨_, hg⟩, fun i hi => ?_⟩⟩
    have cs : ∀ j, j < d.length * 2 → w.cell? ⟨g, 0 + j, none⟩ = (spv d)[j]? := fun j hj => by
      have := h.own.cellAt (g := g) (j := j) (by simpa using hj)
      simpa using this
    have q := spv_at d i hi
    exact ⟨(cs (i * 2) (by omega)).trans q.1, by have := (cs (i * 2 + 1) (by omega)).trans q.2; simpa [Nat.add_assoc] using this⟩
theorem below_own {w w1 : World} {v : Value} {e sz k : Nat} {xs : List Value} {T : Nat} {w0 : World} (B : Below T w0 w) (O : w.ownsRow T e sz v k xs) (hT : T ≤ w.heap.size) (G : w.grownBy w1 v.ownBlock) : Below T w0 w1 :=
  ⟨G.os.trans B.os, G.tape.trans B.tape, G.output.trans B.output, Nat.le_trans B.size G.size, fun q hq => (G.block q (Nat.lt_of_lt_of_le hq hT) (fun e => by have := (O.lt q e.symm).1; omega)).trans (B.block q hq)⟩
/-- A span more: behind the block of the one element. -/
theorem wpList_pushD {ops : Array Oper} {rest : List Oper} {o : Oper} {a : Act} {Q : Exit → Act → World → Prop} {w : World} (hgd : o.guard = none) (s x : Operand)
    (ho : o.op = .call { callee := .builtin .append, args := #[s, x], argTypes := #[23, 23] })
    (w0 w1 : World) (v : Value) (d : Dm) (lo hi : Int) (hw : w = w1.alloc (.cells #[.int .i64 lo, .int .i64 hi] 63)) (hs : a.eval s = v) (hx : a.eval x = .slice (some ⟨w1.heap.size, 0, none⟩) 1 1)
    (hO : DmO w1 w0.heap.size v d) (hB : Below w0.heap.size w0 w1) (hl : d.length ≤ 8000000000000)
    (h : ∀ v' w', DmO w' w0.heap.size v' (d ++ [(lo, hi)]) → Below w0.heap.size w0 w' → Psh w1 w' v v' → wpList Tryz.prog ops Q rest (a.put o.dst v') w') : wpList Tryz.prog ops Q (o :: rest) a w := by
  subst hw
  obtain ⟨i0, hi0, hz0, hz1, hz2⟩ := info_parts info63
  have OW := (hO.below (below_new w1 (.cells #[.int .i64 lo, .int .i64 hi] 63))).op
  have B1 : Below w0.heap.size w0 (w1.alloc (.cells #[.int .i64 lo, .int .i64 hi] 63)) := over hB (below_new _ _)
  refine wpList_append_op hgd s x 23 ho w0.heap.size 63 i0 _ 2 16 Tryz.underlying23 hi0 hz0 hz1 hz2 rfl (by omega) (fun _ _ => trivial) v d.length (spv d) hs OW ⟨w1.heap.size, 0, none⟩ 1 1 [.int .i64 lo, .int .i64 hi] hx rfl ?_ ?_ (fun _ _ => trivial) (by unfold maxLen; omega) (by omega) B1.size ?_
  · intro j u hu
    have hh := heap_alloc_new w1 (.cells #[.int .i64 lo, .int .i64 hi] 63)
    rw [show (⟨w1.heap.size, 0, none⟩ : Addr).add j = ⟨w1.heap.size, j, none⟩ from by unfold Addr.add; split <;> simp_all, cell_of_row _ _ j _ _ _ hh]
    simpa using hu
  · intro u hu
    simp at hu
    rcases hu with rfl | rfl <;> rfl
  · intro v' w' h1 h2 h3
    refine h v' w' ⟨?_⟩ (below_own B1 OW.own B1.size h2) ⟨fun b hb hn => (h2.block b (by simp; omega) (fun e => hn e.symm)).trans ((below_new w1 _).block b hb), fun g hg => ?_, ?_⟩
    · rw [spv_app, List.length_append]
      exact h1
    · rcases h3 g hg with q | q
      · exact .inl q
      · exact .inr (by simp at q; omega)
    · have := h2.size; simp at this; omega
/-- What a call that makes a domain returns. -/
def DmPost (w : World) (d : Dm) (e : Ending) (w' : World) : Prop := ∃ v, e = .returned v ∧ DmV w' d v ∧ Below w.heap.size w w'

theorem span_any (lo hi : Int) (w : World) : Calls Tryz.prog 98 #[.int .i64 lo, .int .i64 hi] w (DmPost w (spanD lo hi)) := by
  by_cases h : hi < lo
  · have E : Hid (spanD lo hi = []) := by show _ = _; exact if_pos h
    go_enter Tryz.func98, Tryz.ntmps98
    go_wp2_with fail
    go_ret
    exact ⟨_, rfl, by rw [E.out]; exact ⟨none, 0, rfl, Nat.le_refl _, by omega, DmB.nil _ _⟩, Below.refl _ _⟩
  · have E : Hid (spanD lo hi = [(lo, hi)]) := by show _ = _; exact if_neg h
    have h' : lo ≤ hi := by omega
    clear h
    go_enter Tryz.func98, Tryz.ntmps98
    go_wp2_with fail
    go_ret
    have hh := heap_alloc_new w (.cells #[.int .i64 lo, .int .i64 hi] 63)
    refine ⟨_, rfl, ?_, below_new _ _⟩
    rw [E.out]
    refine ⟨_, 1, rfl, Nat.le_refl _, by omega, fun _ => ⟨_, 0, rfl, ⟨_, hh⟩, fun i hi => ?_⟩⟩
    obtain rfl : i = 0 := by simpa using hi
    exact ⟨by rw [cell_of_row _ _ _ _ _ _ hh]; rfl, by rw [cell_of_row _ _ _ _ _ _ hh]; rfl⟩
theorem least_any {w : World} {d : Dm} {a : Option Addr} {n c : Nat} (h : DmS w d a n c) (h0 : 0 < n) : Calls Tryz.prog 95 #[.slice a n c] w fun e w' => e = .returned (.int .i64 (leastF d)) ∧ w' = w := by
  obtain ⟨g, o, rfl, dd⟩ := h.at_ (by intro e; have := h.len; rw [e] at this; simp at this; omega)
  have p0 := (dd 0 (by rw [h.len]; exact h0)).1
  have L : Hid (leastF d = (sp d 0).1) := rfl
  obtain ⟨x, hx⟩ : ∃ x, (sp d 0).1 = x := ⟨_, rfl⟩
  rw [hx] at p0 L
  rw [show o + 0 * 2 = o from by omega] at p0
  have hn : (0 : Int) < (n : Int) := by omega
  clear dd h hx
  go_enter Tryz.func95, Tryz.ntmps95
  go_wp2_with fail
  go_ret
  exact ⟨by rw [L.out]; rfl, rfl⟩
theorem fixed_any {w : World} {d : Dm} {a : Option Addr} {n c : Nat} (h : DmS w d a n c) : Calls Tryz.prog 129 #[.slice a n c] w fun e w' => e = .returned (.bool (fixedF d)) ∧ Qt w w' := by
  have E : Hid (fixedF d = (decide (n = 1) && decide ((sp d 0).1 = (sp d 0).2))) := by show _ = _; unfold fixedF; rw [h.len]
  by_cases h1 : n = 1
  · subst h1
    obtain ⟨g, o, rfl, dd⟩ := h.at_ (by intro e; have := h.len; rw [e] at this; simp at this)
    obtain ⟨p0, p1⟩ := dd 0 (by rw [h.len]; omega)
    obtain ⟨x, hx⟩ : ∃ x, (sp d 0).1 = x := ⟨_, rfl⟩
    obtain ⟨y, hy⟩ : ∃ y, (sp d 0).2 = y := ⟨_, rfl⟩
    rw [hx] at p0
    rw [hy] at p1
    rw [hx, hy] at E
    rw [show o + 0 * 2 = o from by omega] at p0
    rw [show o + 0 * 2 + 1 = o + 1 from by omega] at p1
    clear dd h hx hy
    by_cases xy : x = y
    · have E1 : Hid (fixedF d = true) := by show _ = _; rw [E.out]; simp [xy]
      have xy' : (x == y) = true := by simp [xy]
      clear E
      go_enter Tryz.func129, Tryz.ntmps129
      go_upto_region 1 with fail
      go_quiet (fail)
      go_wp2_with fail
      go_ret
      exact ⟨by rw [E1.out]; rfl, _, rfl⟩
    · have E1 : Hid (fixedF d = false) := by show _ = _; rw [E.out]; simp [xy]
      have xy' : (x == y) = false := by simp [xy]
      clear E
      go_enter Tryz.func129, Tryz.ntmps129
      go_upto_region 1 with fail
      go_quiet (fail)
      go_wp2_with fail
      go_ret
      exact ⟨by rw [E1.out]; rfl, _, rfl⟩
  · have e1 : ((n : Int) == 1) = false := by simp; omega
    have E1 : Hid (fixedF d = false) := by show _ = _; rw [E.out]; simp [h1]
    clear E h h1
    go_enter Tryz.func129, Tryz.ntmps129
    go_upto_region 1 with fail
    go_quiet (fail)
    go_wp2_with fail
    go_ret
    exact ⟨by rw [E1.out]; rfl, _, rfl⟩
end Go.Proofs.YteiohgiecpibhaaGreat
