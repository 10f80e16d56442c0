/- Check, DomFault, span, least, fixed, size, meet, has. -/
import Derived.Test.YteiohgiecpibhaaGreatHa
import Derived.Test.YteiohgiecpibhaaGreatMB
import Derived.Test.YteiohgiecpibhaaGreatProg
set_option linter.unusedVariables false
set_option linter.unusedSimpArgs false
set_option maxRecDepth 100000
set_option maxHeartbeats 4000000
namespace Go.Proofs.YteiohgiecpibhaaGreat
open Go.RowKit Fdm

/-- A domain in memory. -/
def DmAt (w : World) (d : Dm) (a : Option Addr) : Prop :=
  d ≠ [] → ∃ g o, a = some ⟨g, o, none⟩ ∧ ∀ i, i < d.length → w.cell? ⟨g, o + i * 2, none⟩ = some (.int .i64 (sp d i).1) ∧ w.cell? ⟨g, o + i * 2 + 1, none⟩ = some (.int .i64 (sp d i).2)
structure DmS (w : World) (d : Dm) (a : Option Addr) (n c : Nat) : Prop where
  at_ : DmAt w d a
  len : d.length = n
  le : n ≤ c
  cap : c ≤ 9223372036854775807
theorem DmAt.below {w w' : World} {d : Dm} {a : Option Addr} (h : DmAt w d a) (hb : Below w.heap.size w w') : DmAt w' d a := fun hne => by
  obtain ⟨g, o, e, k⟩ := h hne
  exact ⟨g, o, e, fun i hi => ⟨cell_later hb (Nat.le_refl _) (k i hi).1, cell_later hb (Nat.le_refl _) (k i hi).2⟩⟩
theorem DmS.below {w w' : World} {d : Dm} {a : Option Addr} {n c : Nat} (h : DmS w d a n c) (hb : Below w.heap.size w w') : DmS w' d a n c := ⟨h.at_.below hb, h.len, h.le, h.cap⟩
def CkPost (w : World) (z : Int) (e : Ending) (w' : World) : Prop := e = .returned (.int .i64 z) ∧ Below w.heap.size w w'
theorem over {a b c : World} (h : Below a.heap.size a b) (k : Below b.heap.size b c) : Below a.heap.size a c := h.trans (k.mono h.size)
theorem wrap_in {z : Int} (h1 : -9223372036854775808 ≤ z) (h2 : z ≤ 9223372036854775807) : IntKind.i64.wrap z = z := by rw [IntKind.wrap_i64]; omega

def CkL (w : World) (d : Dm) (i : Value) (wr : World) : Prop := ∃ k : Nat, k ≤ d.length ∧ i = .int .i64 (k : Int) ∧ spansTo d k = 0 ∧ Below w.heap.size w wr
theorem check_mid {w : World} {d : Dm} {a : Option Addr} {n c : Nat} (h : DmS w d a n c) (h1 : 0 < n) (h2 : n ≤ 256) : Calls Tryz.prog 12 #[.slice a n c] w (CkPost w (chkD d)) := by
  have E : Hid (chkD d = spansTo d d.length) := by show _ = _; unfold chkD; rw [if_neg (by rw [h.len]; omega), if_neg (by rw [h.len]; omega)]
  have HD := Lib.hid h.at_; have HN := Lib.hid h.len
  have hc1 := h.le; have hc2 := h.cap
  have hn0 : ((n : Int) == 0) = false := by simp; omega
  clear h
  go_enter Tryz.func12, Tryz.ntmps12
  go_wp2_with fail
  go_loopw [15] (fun i wr => CkL w d i wr) (fun i _ => n - (intOf i).toNat)
  case atStart => exact ⟨0, Nat.zero_le _, rfl, rfl, Below.refl _ _⟩
  obtain ⟨k, hk, rfl, hz, hBr⟩ := hrel
  have Z := Lib.hid hz; have BR := Lib.hid hBr
  rw [HN.out] at hk
  clear hz hBr
  by_cases hlt : k < n
  · obtain ⟨g, o, rfl, dd⟩ := HD.out (by intro e; have := HN.out; rw [e] at this; simp at this; omega)
    obtain ⟨p0, p1⟩ := dd k (by rw [HN.out]; exact hlt)
    have PV := Lib.hid (fun (h : 0 < k) => (show w.cell? ⟨g, o + (k - 1) * 2 + 1, none⟩ = some (.int .i64 (sp d (k - 1)).2) from (dd (k - 1) (by rw [HN.out]; omega)).2))
    clear dd
    have CA : Hid (spanF d k = if (sp d k).1 < -16384 ∨ 16384 < (sp d k).2 ∨ (sp d k).2 < (sp d k).1 then 1 else if 0 < k ∧ (sp d k).1 ≤ (sp d (k - 1)).2 + 1 then 2 else 0) := rfl
    have ST := Lib.hid (fun (z : Int) (h : spanF d k = z) (h0 : z ≠ 0) => (show chkD d = z by rw [E.out, HN.out, spansTo_stay Z.out (by rw [h]; exact h0) hlt, h]))
    obtain ⟨x, hx⟩ : ∃ x, (sp d k).1 = x := ⟨_, rfl⟩
    obtain ⟨y, hy⟩ : ∃ y, (sp d k).2 = y := ⟨_, rfl⟩
    rw [hx] at p0 CA
    rw [hy] at p1 CA
    have p0 := cell_later BR.out (Nat.le_refl _) p0
    have p1 := cell_later BR.out (Nat.le_refl _) p1
    have B2 : Hid (Below wr.heap.size wr (wr.alloc (.cells #[.int .i64 x, .int .i64 y] 63))) := below_new _ _
    clear hx hy
    by_cases c1 : x < -16384
    · have E1 := Lib.hid (ST.out 1 (by rw [CA.out, if_pos (Or.inl c1)]) (by omega))
      go_wp2_with fail
      go_ret
      exact ⟨by rw [E1.out]; rfl, over BR.out B2.out⟩
    by_cases c2 : 16384 < y
    · have E1 := Lib.hid (ST.out 1 (by rw [CA.out, if_pos (Or.inr (Or.inl c2))]) (by omega))
      have x0 : -16384 ≤ x := by omega
      clear c1
      go_wp2_with fail
      go_ret
      exact ⟨by rw [E1.out]; rfl, over BR.out B2.out⟩
    by_cases c3 : y < x
    · have E1 := Lib.hid (ST.out 1 (by rw [CA.out, if_pos (Or.inr (Or.inr c3))]) (by omega))
      have x0 : -16384 ≤ x := by omega
      have y0 : y ≤ 16384 := by omega
      clear c1 c2
      go_wp2_with fail
      go_ret
      exact ⟨by rw [E1.out]; rfl, over BR.out B2.out⟩
    have x0 : -16384 ≤ x := by omega
    have y0 : y ≤ 16384 := by omega
    have xy : x ≤ y := by omega
    have CA2 : Hid (spanF d k = if 0 < k ∧ x ≤ (sp d (k - 1)).2 + 1 then 2 else 0) := by show _ = _; rw [CA.out, if_neg (by omega)]
    clear c1 c2 c3 CA
    have NW : Hid ((wr.alloc (.cells #[.int .i64 x, .int .i64 y] 63)).heap[wr.heap.size]? = some (.cells #[.int .i64 x, .int .i64 y] 63 (0, 0))) := heap_alloc_new wr _
    have B3 := Lib.hid (over BR.out B2.out)
    go_upto_region 10 with fail
    clear p0 p1 x0 y0 xy
    generalize wr.alloc (.cells #[.int .i64 x, .int .i64 y] 63) = WA at *
    have n0 : WA.cell? ⟨wr.heap.size, 0, none⟩ = some (.int .i64 x) := by rw [cell_of_row WA wr.heap.size 0 _ _ _ NW.out]; rfl
    by_cases k0 : k = 0
    · subst k0
      have NX : Hid (spansTo d 1 = 0) := spansTo_next Z.out (by rw [CA2.out]; exact if_neg (by omega))
      go_quiet (fail)
      go_wp2_with fail
      go_roundw
      case rel => exact ⟨1, by rw [HN.out]; omega, by go_num, NX.out, over B3.out (Qt.below ⟨nq, rfl⟩)⟩
      simp [intOf]; omega
    have pz := cell_later B3.out (Nat.le_refl _) (PV.out (by omega))
    have zb := spanF_zero (spansTo_all Z.out (show k - 1 < k by omega))
    obtain ⟨z, hz⟩ : ∃ z, (sp d (k - 1)).2 = z := ⟨_, rfl⟩
    rw [hz] at pz CA2
    have zw : IntKind.i64.wrap (z + 1) = z + 1 := wrap_in (by omega) (by omega)
    have i1 : ((k : Int) - 1) = ((k - 1 : Nat) : Int) := by omega
    have kz' : decide (0 < k) = true := by simp; omega
    have kz2 : 0 < k := by omega
    have kz : (0 : Int) < (k : Int) := by omega
    have kl : (((k - 1 : Nat) : Int)) < (n : Int) := by omega
    have kl0 : (0 : Int) ≤ ((k - 1 : Nat) : Int) := by omega
    clear zb hz
    by_cases c3 : x ≤ z + 1
    · have E1 := Lib.hid (ST.out 2 (by rw [CA2.out]; exact if_pos ⟨by omega, c3⟩) (by omega))
      have zl' : decide (x ≤ z + 1) = true := by simp; exact c3
      clear k0
      go_quiet (fail)
      go_wp2_with fail
      go_ret
      exact ⟨by rw [E1.out]; rfl, by obtain ⟨q, hq⟩ : ∃ q, q = nq := ⟨_, rfl⟩; exact over B3.out (Qt.below ⟨nq, rfl⟩)⟩
    have NX := Lib.hid (spansTo_next Z.out (by rw [CA2.out]; exact if_neg (by omega)))
    have zl' : decide (x ≤ z + 1) = false := by simp; omega
    have zl2 : z + 1 < x := by omega
    clear k0 c3
    go_quiet (fail)
    go_wp2_with fail
    go_roundw
    case rel => exact ⟨k + 1, by rw [HN.out]; omega, by go_num, NX.out, over B3.out (Qt.below ⟨nq, rfl⟩)⟩
    simp [intOf]; omega
  obtain rfl : n = k := by omega
  have E2 : Hid (chkD d = 0) := by show _ = _; rw [E.out, HN.out]; exact Z.out
  go_wp2_with fail
  go_ret
  exact ⟨by rw [E2.out]; rfl, BR.out⟩
theorem check_any {w : World} {d : Dm} {a : Option Addr} {n c : Nat} (h : DmS w d a n c) : Calls Tryz.prog 12 #[.slice a n c] w (CkPost w (chkD d)) := by
  by_cases h0 : n = 0
  · have E : Hid (chkD d = 15) := by show _ = _; unfold chkD; rw [if_neg (by rw [h.len]; omega), if_pos (by rw [h.len]; exact h0)]
    clear h
    subst h0
    go_enter Tryz.func12, Tryz.ntmps12
    go_wp2_with fail
    go_ret
    exact ⟨by rw [E.out]; rfl, Below.refl _ _⟩
  by_cases h2 : n ≤ 256
  · exact check_mid h (by omega) h2
  have E : Hid (chkD d = 3) := by show _ = _; unfold chkD; rw [if_pos (by rw [h.len]; omega)]
  have h9 : (256 : Int) < (n : Int) := by omega
  clear h h0 h2
  go_enter Tryz.func12, Tryz.ntmps12
  go_wp2_with fail
  go_ret
  exact ⟨by rw [E.out]; rfl, Below.refl _ _⟩
end Go.Proofs.YteiohgiecpibhaaGreat
set_option linter.unusedVariables false
set_option linter.unusedSimpArgs false
set_option maxRecDepth 100000
set_option maxHeartbeats 4000000
namespace Go.Proofs.YteiohgiecpibhaaGreat
open Go.RowKit Fdm

theorem info63 : (Tryz.prog.info? 63).map (fun i => (i.zero, i.size, i.bytes)) = some (some (.agg #[.int .i64 0, .int .i64 0]), 2, 16) := by kernel_rfl
def spv (d : Dm) : List Value := d.flatMap fun s => [.int .i64 s.1, .int .i64 s.2]
theorem spv_app (d : Dm) (s : Sp) : spv (d ++ [s]) = spv d ++ [.int .i64 s.1, .int .i64 s.2] := by simp [spv]
theorem spv_len (d : Dm) : (spv d).length = d.length * 2 := by
  induction d with
  | nil => rfl
  | cons s d ih => simp only [spv, List.flatMap_cons, List.length_append, List.length_cons, List.length_nil] at ih ⊢; omega
theorem spv_at : ∀ (d : Dm) (i : Nat), i < d.length → (spv d)[i * 2]? = some (.int .i64 (sp d i).1) ∧ (spv d)[i * 2 + 1]? = some (.int .i64 (sp d i).2)
  | [], i, h => absurd h (Nat.not_lt_zero _)
  | s :: d, 0, _ => ⟨rfl, rfl⟩
  | s :: d, i + 1, h => by
    have := spv_at d i (by simpa using h)
    rw [show (i + 1) * 2 = i * 2 + 2 from by omega]
    exact this
/-- A domain in memory of its own kind. -/
def DmB (w : World) (d : Dm) (a : Option Addr) : Prop :=
  d ≠ [] → ∃ g o, a = some ⟨g, o, none⟩ ∧ Blk w g 63 ∧ ∀ i, i < d.length → w.cell? ⟨g, o + i * 2, none⟩ = some (.int .i64 (sp d i).1) ∧ w.cell? ⟨g, o + i * 2 + 1, none⟩ = some (.int .i64 (sp d i).2)
theorem DmB.at_ {w : World} {d : Dm} {a : Option Addr} (h : DmB w d a) : DmAt w d a := fun hne => by
  obtain ⟨g, o, e, _, k⟩ := h hne
  exact ⟨g, o, e, k⟩
theorem DmB.below {w w' : World} {d : Dm} {a : Option Addr} (h : DmB w d a) (hb : Below w.heap.size w w') : DmB w' d a := fun hne => by
  obtain ⟨g, o, e, b, k⟩ := h hne
  exact ⟨g, o, e, b.keep (hb.block _ b.lt), fun i hi => ⟨cell_later hb (Nat.le_refl _) (k i hi).1, cell_later hb (Nat.le_refl _) (k i hi).2⟩⟩
theorem DmB.nil (w : World) (a : Option Addr) : DmB w [] a := fun h => absurd rfl h
structure DmV (w : World) (d : Dm) (v : Value) : Prop where
  ex : ∃ a c, v = .slice a d.length c ∧ d.length ≤ c ∧ c ≤ 9223372036854775807 ∧ DmB w d a
theorem DmV.below {w w' : World} {d : Dm} {v : Value} (h : DmV w d v) (hb : Below w.heap.size w w') : DmV w' d v := by
  obtain ⟨a, c, e, h1, h2, h3⟩ := h.ex
  exact ⟨a, c, e, h1, h2, h3.below hb⟩
/-- One that is being built. -/
structure DmO (w : World) (base : Nat) (v : Value) (d : Dm) : Prop where
  op : OwP (fun _ => True) w base 63 2 v d.length (spv d)
theorem DmO.own {w : World} {base : Nat} {v : Value} {d : Dm} (h : DmO w base v d) : w.ownsRow base 63 2 v d.length (spv d) := h.op.own
theorem DmO.nil (w : World) (base : Nat) : DmO w base (.slice none 0 0) [] := ⟨OwP.nil _ w base 63 2⟩
/-- What an append to a row keeps, and where the row lies then. -/
structure Psh (w1 w' : World) (v v' : Value) : Prop where
  keep : ∀ b, b < w1.heap.size → v.ownBlock ≠ some b → w'.heap[b]? = w1.heap[b]?
  own : ∀ g, v'.ownBlock = some g → v.ownBlock = some g ∨ w1.heap.size ≤ g
  size : w1.heap.size ≤ w'.heap.size
theorem Psh.not {w1 w' : World} {v v' : Value} (h : Psh w1 w' v v') {g : Nat} (hg : g < w1.heap.size) (hn : v.ownBlock ≠ some g) : v'.ownBlock ≠ some g := fun e => by
  rcases h.own g e with q | q
  · exact hn q
  · omega
theorem DmO.below {w w' : World} {base : Nat} {v : Value} {d : Dm} (h : DmO w base v d) (hb : Below w.heap.size w w') : DmO w' base v d :=
  ⟨h.op.below hb⟩
theorem DmO.v {w : World} {base : Nat} {v : Value} {d : Dm} (h : DmO w base v d) (hl : d.length ≤ 8000000000000) : DmV w d v := by
  rcases h.own.2 with ⟨rfl, h0⟩ | ⟨g, cap, cur, rfl, hb, hg, hnc, hcm, hcs, htake⟩
  · have : d = [] := List.length_eq_zero_iff.1 h0
    subst this
    exact ⟨none, 0, rfl, Nat.le_refl _, by omega, DmB.nil _ _⟩
  · refine ⟨_, _, rfl, hnc, by unfold maxLen at hcm; omega, fun _ => ⟨g, 0, rfl, ⟨_, hg⟩, fun i hi => ?_⟩⟩
    have cs : ∀ j, j < d.length * 2 → w.cell? ⟨g, 0 + j, none⟩ = (spv d)[j]? := fun j hj => by
      have := h.own.cellAt (g := g) (j := j) (by simpa using hj)
      simpa using this
    have q := spv_at d i hi
    exact ⟨(cs (i * 2) (by omega)).trans q.1, by have := (cs (i * 2 + 1) (by omega)).trans q.2; simpa [Nat.add_assoc] using this⟩
theorem below_own {w w1 : World} {v : Value} {e sz k : Nat} {xs : List Value} {T : Nat} {w0 : World} (B : Below T w0 w) (O : w.ownsRow T e sz v k xs) (hT : T ≤ w.heap.size) (G : w.grownBy w1 v.ownBlock) : Below T w0 w1 :=
  ⟨G.os.trans B.os, G.tape.trans B.tape, G.output.trans B.output, Nat.le_trans B.size G.size, fun q hq => (G.block q (Nat.lt_of_lt_of_le hq hT) (fun e => by have := (O.lt q e.symm).1; omega)).trans (B.block q hq)⟩
/-- A span more: behind the block of the one element. -/
theorem wpList_pushD {ops : Array Oper} {rest : List Oper} {o : Oper} {a : Act} {Q : Exit → Act → World → Prop} {w : World} (hgd : o.guard = none) (s x : Operand)
    (ho : o.op = .call { callee := .builtin .append, args := #[s, x], argTypes := #[23, 23] })
    (w0 w1 : World) (v : Value) (d : Dm) (lo hi : Int) (hw : w = w1.alloc (.cells #[.int .i64 lo, .int .i64 hi] 63)) (hs : a.eval s = v) (hx : a.eval x = .slice (some ⟨w1.heap.size, 0, none⟩) 1 1)
    (hO : DmO w1 w0.heap.size v d) (hB : Below w0.heap.size w0 w1) (hl : d.length ≤ 8000000000000)
    (h : ∀ v' w', DmO w' w0.heap.size v' (d ++ [(lo, hi)]) → Below w0.heap.size w0 w' → Psh w1 w' v v' → wpList Tryz.prog ops Q rest (a.put o.dst v') w') : wpList Tryz.prog ops Q (o :: rest) a w := by
  subst hw
  obtain ⟨i0, hi0, hz0, hz1, hz2⟩ := info_parts info63
  have OW := (hO.below (below_new w1 (.cells #[.int .i64 lo, .int .i64 hi] 63))).op
  have B1 : Below w0.heap.size w0 (w1.alloc (.cells #[.int .i64 lo, .int .i64 hi] 63)) := over hB (below_new _ _)
  refine wpList_append_op hgd s x 23 ho w0.heap.size 63 i0 _ 2 16 Tryz.underlying23 hi0 hz0 hz1 hz2 rfl (by omega) (fun _ _ => trivial) v d.length (spv d) hs OW ⟨w1.heap.size, 0, none⟩ 1 1 [.int .i64 lo, .int .i64 hi] hx rfl ?_ ?_ (fun _ _ => trivial) (by unfold maxLen; omega) (by omega) B1.size ?_
  · intro j u hu
    have hh := heap_alloc_new w1 (.cells #[.int .i64 lo, .int .i64 hi] 63)
    rw [show (⟨w1.heap.size, 0, none⟩ : Addr).add j = ⟨w1.heap.size, j, none⟩ from by unfold Addr.add; split <;> simp_all, cell_of_row _ _ j _ _ _ hh]
    simpa using hu
  · intro u hu
    simp at hu
    rcases hu with rfl | rfl <;> rfl
  · intro v' w' h1 h2 h3
    refine h v' w' ⟨?_⟩ (below_own B1 OW.own B1.size h2) ⟨fun b hb hn => (h2.block b (by simp; omega) (fun e => hn e.symm)).trans ((below_new w1 _).block b hb), fun g hg => ?_, ?_⟩
    · rw [spv_app, List.length_append]
      exact h1
    · rcases h3 g hg with q | q
      · exact .inl q
      · exact .inr (by simp at q; omega)
    · have := h2.size; simp at this; omega
/-- What a call that makes a domain returns. -/
def DmPost (w : World) (d : Dm) (e : Ending) (w' : World) : Prop := ∃ v, e = .returned v ∧ DmV w' d v ∧ Below w.heap.size w w'

theorem span_any (lo hi : Int) (w : World) : Calls Tryz.prog 98 #[.int .i64 lo, .int .i64 hi] w (DmPost w (spanD lo hi)) := by
  by_cases h : hi < lo
  · have E : Hid (spanD lo hi = []) := by show _ = _; exact if_pos h
    go_enter Tryz.func98, Tryz.ntmps98
    go_wp2_with fail
    go_ret
    exact ⟨_, rfl, by rw [E.out]; exact ⟨none, 0, rfl, Nat.le_refl _, by omega, DmB.nil _ _⟩, Below.refl _ _⟩
  · have E : Hid (spanD lo hi = [(lo, hi)]) := by show _ = _; exact if_neg h
    have h' : lo ≤ hi := by omega
    clear h
    go_enter Tryz.func98, Tryz.ntmps98
    go_wp2_with fail
    go_ret
    have hh := heap_alloc_new w (.cells #[.int .i64 lo, .int .i64 hi] 63)
    refine ⟨_, rfl, ?_, below_new _ _⟩
    rw [E.out]
    refine ⟨_, 1, rfl, Nat.le_refl _, by omega, fun _ => ⟨_, 0, rfl, ⟨_, hh⟩, fun i hi => ?_⟩⟩
    obtain rfl : i = 0 := by simpa using hi
    exact ⟨by rw [cell_of_row _ _ _ _ _ _ hh]; rfl, by rw [cell_of_row _ _ _ _ _ _ hh]; rfl⟩
theorem least_any {w : World} {d : Dm} {a : Option Addr} {n c : Nat} (h : DmS w d a n c) (h0 : 0 < n) : Calls Tryz.prog 95 #[.slice a n c] w fun e w' => e = .returned (.int .i64 (leastF d)) ∧ w' = w := by
  obtain ⟨g, o, rfl, dd⟩ := h.at_ (by intro e; have := h.len; rw [e] at this; simp at this; omega)
  have p0 := (dd 0 (by rw [h.len]; exact h0)).1
  have L : Hid (leastF d = (sp d 0).1) := rfl
  obtain ⟨x, hx⟩ : ∃ x, (sp d 0).1 = x := ⟨_, rfl⟩
  rw [hx] at p0 L
  rw [show o + 0 * 2 = o from by omega] at p0
  have hn : (0 : Int) < (n : Int) := by omega
  clear dd h hx
  go_enter Tryz.func95, Tryz.ntmps95
  go_wp2_with fail
  go_ret
  exact ⟨by rw [L.out]; rfl, rfl⟩
theorem fixed_any {w : World} {d : Dm} {a : Option Addr} {n c : Nat} (h : DmS w d a n c) : Calls Tryz.prog 129 #[.slice a n c] w fun e w' => e = .returned (.bool (fixedF d)) ∧ Qt w w' := by
  have E : Hid (fixedF d = (decide (n = 1) && decide ((sp d 0).1 = (sp d 0).2))) := by show _ = _; unfold fixedF; rw [h.len]
  by_cases h1 : n = 1
  · subst h1
    obtain ⟨g, o, rfl, dd⟩ := h.at_ (by intro e; have := h.len; rw [e] at this; simp at this)
    obtain ⟨p0, p1⟩ := dd 0 (by rw [h.len]; omega)
    obtain ⟨x, hx⟩ : ∃ x, (sp d 0).1 = x := ⟨_, rfl⟩
    obtain ⟨y, hy⟩ : ∃ y, (sp d 0).2 = y := ⟨_, rfl⟩
    rw [hx] at p0
    rw [hy] at p1
    rw [hx, hy] at E
    rw [show o + 0 * 2 = o from by omega] at p0
    rw [show o + 0 * 2 + 1 = o + 1 from by omega] at p1
    clear dd h hx hy
    by_cases xy : x = y
    · have E1 : Hid (fixedF d = true) := by show _ = _; rw [E.out]; simp [xy]
      have xy' : (x == y) = true := by simp [xy]
      clear E
      go_enter Tryz.func129, Tryz.ntmps129
      go_upto_region 1 with fail
      go_quiet (fail)
      go_wp2_with fail
      go_ret
      exact ⟨by rw [E1.out]; rfl, _, rfl⟩
    · have E1 : Hid (fixedF d = false) := by show _ = _; rw [E.out]; simp [xy]
      have xy' : (x == y) = false := by simp [xy]
      clear E
      go_enter Tryz.func129, Tryz.ntmps129
      go_upto_region 1 with fail
      go_quiet (fail)
      go_wp2_with fail
      go_ret
      exact ⟨by rw [E1.out]; rfl, _, rfl⟩
  · have e1 : ((n : Int) == 1) = false := by simp; omega
    have E1 : Hid (fixedF d = false) := by show _ = _; rw [E.out]; simp [h1]
    clear E h h1
    go_enter Tryz.func129, Tryz.ntmps129
    go_upto_region 1 with fail
    go_quiet (fail)
    go_wp2_with fail
    go_ret
    exact ⟨by rw [E1.out]; rfl, _, rfl⟩
end Go.Proofs.YteiohgiecpibhaaGreat
set_option linter.unusedVariables false
set_option linter.unusedSimpArgs false
set_option maxRecDepth 100000
set_option maxHeartbeats 4000000
namespace Go.Proofs.YteiohgiecpibhaaGreat
open Go.RowKit Fdm

theorem dom_mid {w : World} {d : Dm} {a : Option Addr} {n c : Nat} (h : DmS w d a n c) (h1 : 0 < n) (h2 : n ≤ 256) : Calls Tryz.prog 13 #[.slice a n c] w (CkPost w (chkD d)) := by
  have E : Hid (chkD d = spansTo d d.length) := by show _ = _; unfold chkD; rw [if_neg (by rw [h.len]; omega), if_neg (by rw [h.len]; omega)]
  have HD := Lib.hid h.at_; have HN := Lib.hid h.len
  have hc1 := h.le; have hc2 := h.cap
  have hn0 : ((n : Int) == 0) = false := by simp; omega
  clear h
  go_enter Tryz.func13, Tryz.ntmps13
  go_wp2_with fail
  go_loopw [3] (fun i wr => CkL w d i wr) (fun i _ => n - (intOf i).toNat)
  case atStart => exact ⟨0, Nat.zero_le _, rfl, rfl, Below.refl _ _⟩
  obtain ⟨k, hk, rfl, hz, hBr⟩ := hrel
  have Z := Lib.hid hz; have BR := Lib.hid hBr
  rw [HN.out] at hk
  clear hz hBr
  by_cases hlt : k < n
  · obtain ⟨g, o, rfl, dd⟩ := HD.out (by intro e; have := HN.out; rw [e] at this; simp at this; omega)
    obtain ⟨p0, p1⟩ := dd k (by rw [HN.out]; exact hlt)
    have PV := Lib.hid (fun (h : 0 < k) => (show w.cell? ⟨g, o + (k - 1) * 2 + 1, none⟩ = some (.int .i64 (sp d (k - 1)).2) from (dd (k - 1) (by rw [HN.out]; omega)).2))
    clear dd
    have CA : Hid (spanF d k = if (sp d k).1 < -16384 ∨ 16384 < (sp d k).2 ∨ (sp d k).2 < (sp d k).1 then 1 else if 0 < k ∧ (sp d k).1 ≤ (sp d (k - 1)).2 + 1 then 2 else 0) := rfl
    have ST := Lib.hid (fun (z : Int) (h : spanF d k = z) (h0 : z ≠ 0) => (show chkD d = z by rw [E.out, HN.out, spansTo_stay Z.out (by rw [h]; exact h0) hlt, h]))
    obtain ⟨x, hx⟩ : ∃ x, (sp d k).1 = x := ⟨_, rfl⟩
    obtain ⟨y, hy⟩ : ∃ y, (sp d k).2 = y := ⟨_, rfl⟩
    rw [hx] at p0 CA
    rw [hy] at p1 CA
    have p0 := cell_later BR.out (Nat.le_refl _) p0
    have p1 := cell_later BR.out (Nat.le_refl _) p1
    have B2 : Hid (Below wr.heap.size wr (wr.alloc (.cells #[.int .i64 x, .int .i64 y] 63))) := below_new _ _
    clear hx hy
    by_cases c1 : x < -16384
    · have E1 := Lib.hid (ST.out 1 (by rw [CA.out, if_pos (Or.inl c1)]) (by omega))
      go_wp2_with fail
      go_ret
      exact ⟨by rw [E1.out]; rfl, over BR.out B2.out⟩
    by_cases d1 : 16384 < x
    · have E1 := Lib.hid (ST.out 1 (by rw [CA.out, if_pos (by omega)]) (by omega))
      have x0 : -16384 ≤ x := by omega
      clear c1
      go_wp2_with fail
      go_ret
      exact ⟨by rw [E1.out]; rfl, over BR.out B2.out⟩
    have x9 : x ≤ 16384 := by omega
    by_cases d2 : y < -16384
    · have E1 := Lib.hid (ST.out 1 (by rw [CA.out, if_pos (by omega)]) (by omega))
      have x0 : -16384 ≤ x := by omega
      clear c1 d1
      go_wp2_with fail
      go_ret
      exact ⟨by rw [E1.out]; rfl, over BR.out B2.out⟩
    have y9 : -16384 ≤ y := by omega
    clear d1 d2
    by_cases c2 : 16384 < y
    · have E1 := Lib.hid (ST.out 1 (by rw [CA.out, if_pos (Or.inr (Or.inl c2))]) (by omega))
      have x0 : -16384 ≤ x := by omega
      clear c1
      go_wp2_with fail
      go_ret
      exact ⟨by rw [E1.out]; rfl, over BR.out B2.out⟩
    by_cases c3 : y < x
    · have E1 := Lib.hid (ST.out 1 (by rw [CA.out, if_pos (Or.inr (Or.inr c3))]) (by omega))
      have x0 : -16384 ≤ x := by omega
      have y0 : y ≤ 16384 := by omega
      clear c1 c2
      go_wp2_with fail
      go_ret
      exact ⟨by rw [E1.out]; rfl, over BR.out B2.out⟩
    have x0 : -16384 ≤ x := by omega
    have y0 : y ≤ 16384 := by omega
    have xy : x ≤ y := by omega
    have CA2 : Hid (spanF d k = if 0 < k ∧ x ≤ (sp d (k - 1)).2 + 1 then 2 else 0) := by show _ = _; rw [CA.out, if_neg (by omega)]
    clear c1 c2 c3 CA
    have NW : Hid ((wr.alloc (.cells #[.int .i64 x, .int .i64 y] 63)).heap[wr.heap.size]? = some (.cells #[.int .i64 x, .int .i64 y] 63 (0, 0))) := heap_alloc_new wr _
    have B3 := Lib.hid (over BR.out B2.out)
    go_upto_region 11 with fail
    clear p0 p1 x0 y0 xy x9 y9
    generalize wr.alloc (.cells #[.int .i64 x, .int .i64 y] 63) = WA at *
    have n0 : WA.cell? ⟨wr.heap.size, 0, none⟩ = some (.int .i64 x) := by rw [cell_of_row WA wr.heap.size 0 _ _ _ NW.out]; rfl
    by_cases k0 : k = 0
    · subst k0
      have NX : Hid (spansTo d 1 = 0) := spansTo_next Z.out (by rw [CA2.out]; exact if_neg (by omega))
      go_quiet (fail)
      go_wp2_with fail
      go_roundw
      case rel => exact ⟨1, by rw [HN.out]; omega, by go_num, NX.out, over B3.out (Qt.below ⟨nq, rfl⟩)⟩
      simp [intOf]; omega
    have pz := cell_later B3.out (Nat.le_refl _) (PV.out (by omega))
    have zb := spanF_zero (spansTo_all Z.out (show k - 1 < k by omega))
    obtain ⟨z, hz⟩ : ∃ z, (sp d (k - 1)).2 = z := ⟨_, rfl⟩
    rw [hz] at pz CA2
    have zw : IntKind.i64.wrap (z + 1) = z + 1 := wrap_in (by omega) (by omega)
    have i1 : ((k : Int) - 1) = ((k - 1 : Nat) : Int) := by omega
    have kz' : decide (0 < k) = true := by simp; omega
    have kz2 : 0 < k := by omega
    have kz : (0 : Int) < (k : Int) := by omega
    have kl : (((k - 1 : Nat) : Int)) < (n : Int) := by omega
    have kl0 : (0 : Int) ≤ ((k - 1 : Nat) : Int) := by omega
    clear zb hz
    by_cases c3 : x ≤ z + 1
    · have E1 := Lib.hid (ST.out 2 (by rw [CA2.out]; exact if_pos ⟨by omega, c3⟩) (by omega))
      have zl' : decide (x ≤ z + 1) = true := by simp; exact c3
      clear k0
      go_quiet (fail)
      go_wp2_with fail
      go_ret
      exact ⟨by rw [E1.out]; rfl, by obtain ⟨q, hq⟩ : ∃ q, q = nq := ⟨_, rfl⟩; exact over B3.out (Qt.below ⟨nq, rfl⟩)⟩
    have NX := Lib.hid (spansTo_next Z.out (by rw [CA2.out]; exact if_neg (by omega)))
    have zl' : decide (x ≤ z + 1) = false := by simp; omega
    have zl2 : z + 1 < x := by omega
    clear k0 c3
    go_quiet (fail)
    go_wp2_with fail
    go_roundw
    case rel => exact ⟨k + 1, by rw [HN.out]; omega, by go_num, NX.out, over B3.out (Qt.below ⟨nq, rfl⟩)⟩
    simp [intOf]; omega
  obtain rfl : n = k := by omega
  have E2 : Hid (chkD d = 0) := by show _ = _; rw [E.out, HN.out]; exact Z.out
  go_wp2_with fail
  go_ret
  exact ⟨by rw [E2.out]; rfl, BR.out⟩
theorem domFault_any {w : World} {d : Dm} {a : Option Addr} {n c : Nat} (h : DmS w d a n c) : Calls Tryz.prog 13 #[.slice a n c] w (CkPost w (chkD d)) := by
  by_cases h0 : n = 0
  · have E : Hid (chkD d = 15) := by show _ = _; unfold chkD; rw [if_neg (by rw [h.len]; omega), if_pos (by rw [h.len]; exact h0)]
    clear h
    subst h0
    go_enter Tryz.func13, Tryz.ntmps13
    go_wp2_with fail
    go_ret
    exact ⟨by rw [E.out]; rfl, Below.refl _ _⟩
  by_cases h2 : n ≤ 256
  · exact dom_mid h (by omega) h2
  have E : Hid (chkD d = 3) := by show _ = _; unfold chkD; rw [if_pos (by rw [h.len]; omega)]
  have h9 : (256 : Int) < (n : Int) := by omega
  clear h h0 h2
  go_enter Tryz.func13, Tryz.ntmps13
  go_wp2_with fail
  go_ret
  exact ⟨by rw [E.out]; rfl, Below.refl _ _⟩
end Go.Proofs.YteiohgiecpibhaaGreat
set_option linter.unusedVariables false
set_option linter.unusedSimpArgs false
set_option maxRecDepth 100000
set_option maxHeartbeats 4000000
namespace Go.Proofs.YteiohgiecpibhaaGreat
open Go.RowKit Fdm

/-- What is read of a domain. -/
theorem DmS.read {w : World} {d : Dm} {a : Option Addr} {n c : Nat} (h : DmS w d a n c) (h0 : 0 < n) : ∃ g o, a = some ⟨g, o, none⟩ ∧ ∀ i, i < n → w.cell? ⟨g, o + i * 2, none⟩ = some (.int .i64 (sp d i).1) ∧ w.cell? ⟨g, o + i * 2 + 1, none⟩ = some (.int .i64 (sp d i).2) := by
  obtain ⟨g, o, e, k⟩ := h.at_ (by intro e; have := h.len; rw [e] at this; simp at this; omega)
  exact ⟨g, o, e, fun i hi => k i (by rw [h.len]; exact hi)⟩

def SzL (w : World) (d : Dm) (v3 v8 : Value) (wr : World) : Prop := ∃ k : Nat, k ≤ d.length ∧ v8 = .int .i64 (k : Int) ∧ v3 = .int .i64 (sizeTo d k) ∧ Below w.heap.size w wr
theorem size_any {w : World} {d : Dm} {a : Option Addr} {n c : Nat} (h : DmS w d a n c) (ok : Ok d) : Calls Tryz.prog 44 #[.slice a n c] w (CkPost w (sizeF d)) := by
  have HN := Lib.hid h.len; have H := Lib.hid h; have OK := Lib.hid ok
  clear ok
  have h2 := h.cap; have h1 := h.le
  clear h
  go_enter Tryz.func44, Tryz.ntmps44
  go_wp2_with fail
  go_loopw [3, 8] (fun v3 v8 wr => SzL w d v3 v8 wr) (fun _ v8 _ => n - (intOf v8).toNat)
  case atStart => exact ⟨0, Nat.zero_le _, rfl, rfl, Below.refl _ _⟩
  obtain ⟨k, hk, rfl, rfl, hBr⟩ := hrel
  have BR := Lib.hid hBr
  rw [HN.out] at hk
  clear hBr
  by_cases hlt : k < n
  · obtain ⟨g, o, rfl, dd⟩ := H.out.read (by omega)
    obtain ⟨p0, p1⟩ := dd k hlt
    clear dd
    have NX := Lib.hid (sizeTo_next (d := d) (k := k) (by rw [HN.out]; exact hlt))
    have z1 := ok_sizeTo OK.out k (by rw [HN.out]; omega)
    have z2 := ok_sizeTo OK.out (k + 1) (by rw [HN.out]; omega)
    have z3 := spanF_zero (OK.out k (by rw [HN.out]; exact hlt))
    rw [NX.out, Nat.add_sub_cancel] at z2
    have z22 := z2.2 (by omega)
    have z11 : 0 ≤ sizeTo d k := z1.1
    clear z1
    obtain ⟨x, hx⟩ : ∃ x, (sp d k).1 = x := ⟨_, rfl⟩
    obtain ⟨y, hy⟩ : ∃ y, (sp d k).2 = y := ⟨_, rfl⟩
    obtain ⟨t, ht⟩ : ∃ t, sizeTo d k = t := ⟨_, rfl⟩
    rw [hx] at p0 NX z3 z22
    rw [hy] at p1 NX z3 z22
    rw [ht] at NX z22 z11
    rw [ht]
    have p0 := cell_later BR.out (Nat.le_refl _) p0
    have p1 := cell_later BR.out (Nat.le_refl _) p1
    have B2 : Hid (Below wr.heap.size wr (wr.alloc (.cells #[.int .i64 x, .int .i64 y] 63))) := below_new _ _
    have a1 : -16384 ≤ x := z3.1
    have a2 : y ≤ 16384 := z3.2.1
    have a3 : x ≤ y := z3.2.2.1
    have a4 : t ≤ 32768 := by omega
    clear hx hy ht z2 z3 z22
    go_wp2_with fail
    go_roundw
    case rel => exact ⟨k + 1, by rw [HN.out]; omega, by go_num, by rw [NX.out], over BR.out B2.out⟩
    simp [intOf]; omega
  obtain rfl : n = k := by omega
  have E2 : Hid (sizeTo d n = sizeF d) := by show _ = _; rw [← HN.out]; exact sizeTo_all d
  go_wp2_with fail
  go_ret
  exact ⟨by rw [E2.out]; rfl, BR.out⟩

def MtL (w : World) (a b : Dm) (v5 v6 v7 : Value) (wr : World) : Prop :=
  ∃ (i k : Nat) (out : Dm), i ≤ a.length ∧ k ≤ b.length ∧ v6 = .int .i64 (i : Int) ∧ v7 = .int .i64 (k : Int) ∧ out ++ meetF (a.drop i) (b.drop k) = meetF a b ∧ out.length ≤ i + k ∧ DmO wr w.heap.size v5 out ∧ Below w.heap.size w wr
theorem meet_any {w : World} {a b : Dm} {aa ab : Option Addr} {n c m e : Nat} (ha : DmS w a aa n c) (hb : DmS w b ab m e) (hn : n ≤ 100000) (hm : m ≤ 100000) :
    Calls Tryz.prog 48 #[.slice aa n c, .slice ab m e] w (DmPost w (meetF a b)) := by
  have HA := Lib.hid ha; have HB := Lib.hid hb
  have NA := Lib.hid ha.len; have NB := Lib.hid hb.len
  have c1 := ha.cap; have c2 := ha.le; have e1 := hb.cap; have e2 := hb.le
  clear ha hb
  go_enter Tryz.func48, Tryz.ntmps48
  go_wp2_with fail
  go_loopw [5, 6, 7] (fun v5 v6 v7 wr => MtL w a b v5 v6 v7 wr) (fun _ v6 v7 _ => n + m - (intOf v6).toNat - (intOf v7).toNat)
  case atStart => exact ⟨0, 0, [], Nat.zero_le _, Nat.zero_le _, rfl, rfl, rfl, Nat.zero_le _, DmO.nil _ _, Below.refl _ _⟩
  obtain ⟨i, k, out, hi, hk, rfl, rfl, hq, hl, hO, hBr⟩ := hrel
  have BR := Lib.hid hBr; have O := Lib.hid hO; have Q := Lib.hid hq
  rw [NA.out] at hi
  rw [NB.out] at hk
  clear hBr hO hq
  by_cases hlt : i < n ∧ k < m
  · obtain ⟨l1, l2⟩ := hlt
    obtain ⟨g, o, rfl, dd⟩ := HA.out.read (by omega)
    obtain ⟨p0, p1⟩ := dd i l1
    clear dd
    obtain ⟨g', o', rfl, dd⟩ := HB.out.read (by omega)
    obtain ⟨q0, q1⟩ := dd k l2
    clear dd
    have ST := Lib.hid (meet_step (a := a) (b := b) (by rw [NA.out]; exact l1) (by rw [NB.out]; exact l2))
    obtain ⟨x, hx⟩ : ∃ x, (sp a i).1 = x := ⟨_, rfl⟩
    obtain ⟨y, hy⟩ : ∃ y, (sp a i).2 = y := ⟨_, rfl⟩
    obtain ⟨x', hx'⟩ : ∃ x', (sp b k).1 = x' := ⟨_, rfl⟩
    obtain ⟨y', hy'⟩ : ∃ y', (sp b k).2 = y' := ⟨_, rfl⟩
    rw [hx] at p0
    rw [hy] at p1
    rw [hx'] at q0
    rw [hy'] at q1
    rw [hx, hy, hx', hy'] at ST
    have P1 := Lib.hid p1; have Q1 := Lib.hid q1
    have p0 := cell_later BR.out (Nat.le_refl _) p0
    have p1 := cell_later BR.out (Nat.le_refl _) p1
    have q0 := cell_later BR.out (Nat.le_refl _) q0
    have q1 := cell_later BR.out (Nat.le_refl _) q1
    clear hx hy hx' hy'
    go_upto_region 4 with fail
    go_quiet (fail)
    obtain ⟨lo, hlo⟩ : ∃ lo, (if x < x' then x' else x) = lo := ⟨_, rfl⟩
    obtain ⟨hi', hhi⟩ : ∃ hi', (if y' < y then y' else y) = hi' := ⟨_, rfl⟩
    rw [hlo, hhi]
    have m1 : max x x' = lo := by rw [← hlo]; split <;> omega
    have m2 : min y y' = hi' := by rw [← hhi]; split <;> omega
    rw [m1, m2] at ST
    have B1 := Lib.hid (over BR.out (Qt.below (wr := wr.drewN nq) ⟨nq, rfl⟩))
    have O1 := Lib.hid (O.out.below (Qt.below (wr := wr.drewN nq) ⟨nq, rfl⟩))
    have p1 : (wr.drewN nq).cell? ⟨g, o + i * 2 + 1, none⟩ = some (.int .i64 y) := p1
    have q1 : (wr.drewN nq).cell? ⟨g', o' + k * 2 + 1, none⟩ = some (.int .i64 y') := q1
    clear hlo hhi m1 m2 O
    generalize wr.drewN nq = W1 at *
    by_cases lh : lo ≤ hi'
    · have LH : Hid (lo ≤ hi') := lh
      go_upto_region 7 with (at_builtin; refine wpList_pushD rfl _ _ rfl w W1 u5 out lo hi' rfl rfl rfl O1.out B1.out (by omega) ?_; intro v5 W2 hO2 hB2 _; have O2 := Lib.hid hO2; have B2 := Lib.hid hB2; clear hO2 hB2)
      have p1 := cell_later B2.out (Nat.le_refl _) P1.out
      have q1 := cell_later B2.out (Nat.le_refl _) Q1.out
      by_cases yy : y < y'
      · have YY : Hid (y < y') := yy
        go_upto_region 7 with fail
        go_quiet (fail)
        go_wp2_with fail
        go_roundw
        case rel => exact ⟨i + 1, k, out ++ [(lo, hi')], by rw [NA.out]; omega, by rw [NB.out]; omega, by go_num, by go_num, by rw [← Q.out, ST.out, if_pos LH.out, if_pos YY.out]; simp, by simp; omega, O2.out.below (Qt.below ⟨nq, rfl⟩), over B2.out (Qt.below ⟨nq, rfl⟩)⟩
        simp [intOf]; omega
      · have YY : Hid (¬ y < y') := yy
        have yy' : y' ≤ y := by omega
        clear yy
        go_upto_region 7 with fail
        go_quiet (fail)
        go_wp2_with fail
        go_roundw
        case rel => exact ⟨i, k + 1, out ++ [(lo, hi')], by rw [NA.out]; omega, by rw [NB.out]; omega, by go_num, by go_num, by rw [← Q.out, ST.out, if_pos LH.out, if_neg YY.out]; simp, by simp; omega, O2.out.below (Qt.below ⟨nq, rfl⟩), over B2.out (Qt.below ⟨nq, rfl⟩)⟩
        simp [intOf]; omega
    · have LH : Hid (¬ lo ≤ hi') := lh
      have lh' : hi' < lo := by omega
      clear lh
      by_cases yy : y < y'
      · have YY : Hid (y < y') := yy
        go_upto_region 7 with fail
        go_quiet (fail)
        go_wp2_with fail
        go_roundw
        case rel => exact ⟨i + 1, k, out, by rw [NA.out]; omega, by rw [NB.out]; omega, by go_num, by go_num, by rw [← Q.out, ST.out, if_neg LH.out, if_pos YY.out]; simp, by omega, O1.out.below (Qt.below ⟨nq, rfl⟩), over B1.out (Qt.below ⟨nq, rfl⟩)⟩
        simp [intOf]; omega
      · have YY : Hid (¬ y < y') := yy
        have yy' : y' ≤ y := by omega
        clear yy
        go_upto_region 7 with fail
        go_quiet (fail)
        go_wp2_with fail
        go_roundw
        case rel => exact ⟨i, k + 1, out, by rw [NA.out]; omega, by rw [NB.out]; omega, by go_num, by go_num, by rw [← Q.out, ST.out, if_neg LH.out, if_neg YY.out]; simp, by omega, O1.out.below (Qt.below ⟨nq, rfl⟩), over B1.out (Qt.below ⟨nq, rfl⟩)⟩
        simp [intOf]; omega
  · have E : Hid (meetF a b = out) := by
      show _ = _
      rw [← Q.out, meet_end (by rw [NA.out, NB.out]; omega), List.append_nil]
    by_cases l1 : i < n
    · obtain rfl : m = k := by omega
      clear hlt
      go_wp2_with fail
      go_ret
      exact ⟨_, rfl, by rw [E.out]; exact O.out.v (by omega), BR.out⟩
    · obtain rfl : n = i := by omega
      clear hlt l1
      go_wp2_with fail
      go_ret
      exact ⟨_, rfl, by rw [E.out]; exact O.out.v (by omega), BR.out⟩
end Go.Proofs.YteiohgiecpibhaaGreat
set_option linter.unusedVariables false
set_option linter.unusedSimpArgs false
set_option maxRecDepth 100000
set_option maxHeartbeats 4000000
namespace Go.Proofs.YteiohgiecpibhaaGreat
open Go.RowKit Fdm

theorem Qt.same {w W : World} (h : Qt w W) (g : Nat) : W.heap[g]? = w.heap[g]? := by obtain ⟨q, rfl⟩ := h; rfl
/-- What the closure reads. -/
structure HsB (W : World) (d : Dm) (v : Int) (a : Option Addr) (n c b0 b1 : Nat) : Prop where
  d : DmS W d a n c
  b0 : W.cell? ⟨b0, 0, none⟩ = some (.slice a n c)
  b1 : W.cell? ⟨b1, 0, none⟩ = some (.int .i64 v)
theorem HsB.qt {W W' : World} {d : Dm} {v : Int} {a : Option Addr} {n c b0 b1 : Nat} (h : HsB W d v a n c b0 b1) (q : Qt W W') : HsB W' d v a n c b0 b1 :=
  ⟨h.d.below q.below, q.cell h.b0, q.cell h.b1⟩
theorem hasF_any {W : World} {d : Dm} {v : Int} {a : Option Addr} {n c b0 b1 i : Nat} (h : HsB W d v a n c b0 b1) (hi : i < n) :
    Calls Tryz.prog 75 #[.int .i64 (i : Int), .pointer (some ⟨b0, 0, none⟩), .pointer (some ⟨b1, 0, none⟩)] W fun e w' => e = .returned (.bool (decide (v ≤ (sp d i).2))) ∧ Qt W w' := by
  obtain ⟨g, o, rfl, dd⟩ := h.d.read (by omega)
  have p1 := (dd i hi).2
  have q0 := h.b0; have q1 := h.b1
  have hc := h.d.cap; have hl := h.d.le
  obtain ⟨y, hy⟩ : ∃ y, (sp d i).2 = y := ⟨_, rfl⟩
  rw [hy] at p1
  rw [hy]
  clear dd h hy
  go_enter Tryz.func75, Tryz.ntmps75
  go_upto_region 1 with fail
  go_quiet (fail)
  go_wp2_with fail
  go_ret
  exact ⟨rfl, _, rfl⟩
def SeL (W : World) (d : Dm) (v : Int) (n : Nat) (v5 v6 : Value) (wr : World) : Prop :=
  ∃ i j : Nat, i ≤ j ∧ j ≤ n ∧ v5 = .int .i64 (i : Int) ∧ v6 = .int .i64 (j : Int) ∧ (∀ t, t < i → (sp d t).2 < v) ∧ (∀ t, j ≤ t → t < n → v ≤ (sp d t).2) ∧ Qt W wr
theorem ok_high {d : Dm} (h : Ok d) : ∀ j i, i < j → j < d.length → (sp d i).2 < (sp d j).1
  | 0, _, q, _ => absurd q (Nat.not_lt_zero _)
  | j + 1, i, q, hj => by
    have z := spanF_zero (h (j + 1) hj)
    have z4 := z.2.2.2 (by omega)
    rw [Nat.add_sub_cancel] at z4
    by_cases e : i = j
    · subst e; omega
    · have := ok_high h j i (by omega) (by omega)
      have y := spanF_zero (h j (by omega))
      omega
theorem ok_low {d : Dm} (h : Ok d) {i j : Nat} (hij : i ≤ j) (hj : j < d.length) : (sp d i).2 ≤ (sp d j).2 := by
  by_cases e : i = j
  · subst e; omega
  · have := ok_high h j i (by omega) hj
    have y := spanF_zero (h j hj)
    omega
theorem search_any {W : World} {d : Dm} {v : Int} {a : Option Addr} {n c b0 b1 : Nat} (h : HsB W d v a n c b0 b1) (ok : Ok d) (hn : n ≤ 100000) :
    Calls Tryz.prog 74 #[.int .i64 (n : Int), .func (.func 75) #[] #[.pointer (some ⟨b0, 0, none⟩), .pointer (some ⟨b1, 0, none⟩)]] W fun e w' =>
      ∃ i : Nat, i ≤ n ∧ e = .returned (.int .i64 (i : Int)) ∧ (∀ t, t < i → (sp d t).2 < v) ∧ (∀ t, i ≤ t → t < n → v ≤ (sp d t).2) ∧ Qt W w' := by
  have H := Lib.hid h; have OK := Lib.hid ok; have LN := Lib.hid h.d.len
  clear h ok
  go_enter Tryz.func74, Tryz.ntmps74
  go_wp2_with fail
  go_loopw [5, 6] (fun v5 v6 wr => SeL W d v n v5 v6 wr) (fun v5 v6 _ => (intOf v6).toNat - (intOf v5).toNat)
  case atStart => exact ⟨0, n, Nat.zero_le _, Nat.le_refl _, rfl, rfl, fun t ht => absurd ht (Nat.not_lt_zero _), fun t h1 h2 => absurd h2 (by omega), Qt.refl _⟩
  obtain ⟨i, j, hij, hj, rfl, rfl, f1, f2, hQ⟩ := hrel
  have F1 := Lib.hid f1; have F2 := Lib.hid f2; have Q := Lib.hid hQ
  clear f1 f2 hQ
  by_cases hlt : i < j
  · have hm : (((i : Int) + (j : Int)) / 2) = (((i + j) / 2 : Nat) : Int) := by omega
    obtain ⟨m, hme⟩ : ∃ m, (i + j) / 2 = m := ⟨_, rfl⟩
    rw [hme] at hm
    have m1 : i ≤ m := by omega
    have m2 : m < j := by omega
    have C := Lib.hid (hasF_any (H.out.qt Q.out) (show m < n by omega))
    clear hme
    by_cases hv : v ≤ (sp d m).2
    · rw [decide_eq_true hv] at C
      have G2 : Hid (∀ t, m ≤ t → t < n → v ≤ (sp d t).2) := fun t h1 h2 => by have := ok_low OK.out h1 (by rw [LN.out]; exact h2); omega
      clear hv
      go_upto_region 4 with fail
      go_wp2_with fail
      refine C.out.mono ?_
      rintro e w2 ⟨rfl, hq2⟩
      have Q2 := Lib.hid (Q.out.trans hq2)
      clear hq2
      go_wp2_with fail
      go_roundw
      case rel => exact ⟨i, m, m1, by omega, rfl, rfl, F1.out, G2.out, Q2.out⟩
      simp [intOf]; omega
    · rw [decide_eq_false hv] at C
      have G1 : Hid (∀ t, t < m + 1 → (sp d t).2 < v) := fun t h1 => by have := ok_low OK.out (show t ≤ m by omega) (by rw [LN.out]; omega); omega
      clear hv
      go_upto_region 4 with fail
      go_wp2_with fail
      refine C.out.mono ?_
      rintro e w2 ⟨rfl, hq2⟩
      have Q2 := Lib.hid (Q.out.trans hq2)
      clear hq2
      go_wp2_with fail
      go_roundw
      case rel => exact ⟨m + 1, j, by omega, hj, by go_num, rfl, G1.out, F2.out, Q2.out⟩
      simp [intOf]; omega
  obtain rfl : i = j := by omega
  go_wp2_with fail
  go_ret
  exact ⟨i, hj, rfl, F1.out, F2.out, Q.out⟩
theorem memF_ends {d : Dm} (ok : Ok d) {v : Int} {i : Nat} (h1 : ∀ t, t < i → (sp d t).2 < v) (h2 : ∀ t, i ≤ t → t < d.length → v ≤ (sp d t).2) : memF d v = (decide (i < d.length) && decide ((sp d i).1 ≤ v)) := by
  rw [Bool.eq_iff_iff]
  simp only [memF, List.any_eq_true, Bool.and_eq_true, decide_eq_true_eq]
  constructor
  · rintro ⟨s, hs, a, b⟩
    obtain ⟨t, ht, rfl⟩ := List.getElem_of_mem hs
    have e : sp d t = d[t] := by unfold sp; rw [List.getD_eq_getElem?_getD, List.getElem?_eq_getElem ht]; rfl
    rw [← e] at a b
    have hti : i ≤ t := Classical.byContradiction fun q => by have := h1 t (by omega); omega
    refine ⟨by omega, ?_⟩
    by_cases q : i = t
    · subst q; exact a
    · have := ok_high ok t i (by omega) ht
      have := h2 i (Nat.le_refl _) (by omega)
      omega
  · rintro ⟨hi, a⟩
    have e : sp d i = d[i] := by unfold sp; rw [List.getD_eq_getElem?_getD, List.getElem?_eq_getElem hi]; rfl
    exact ⟨d[i], List.getElem_mem hi, by rw [← e]; exact a, by rw [← e]; exact h2 i (Nat.le_refl _) hi⟩
theorem has_any {w : World} {d : Dm} {v : Int} {a : Option Addr} {n c : Nat} (h : DmS w d a n c) (ok : Ok d) (hn : n ≤ 100000) : Calls Tryz.prog 45 #[.slice a n c, .int .i64 v] w fun e w' => e = .returned (.bool (memF d v)) ∧ Below w.heap.size w w' := by
  have B : Hid (Below w.heap.size w ((w.alloc (.cells #[.slice a n c] 23)).alloc (.cells #[.int .i64 v] 3))) := over (below_new _ _) (below_new _ _)
  have HB : Hid (HsB ((w.alloc (.cells #[.slice a n c] 23)).alloc (.cells #[.int .i64 v] 3)) d v a n c w.heap.size (w.heap.size + 1)) := by
    refine ⟨h.below B.out, ?_, ?_⟩
    · exact cell_later (below_new _ _) (Nat.le_refl _) (by rw [cell_of_row _ _ _ _ _ _ (heap_alloc_new w _)]; rfl)
    · have e := heap_alloc_new (w.alloc (.cells #[.slice a n c] 23)) (.cells #[.int .i64 v] 3)
      rw [World.size_alloc] at e
      rw [cell_of_row _ _ _ _ _ _ e]; rfl
  have S := Lib.hid (search_any HB.out ok hn)
  have LN := Lib.hid h.len; have OK := Lib.hid ok
  have hc := h.cap; have hl := h.le
  clear h ok
  go_enter Tryz.func45, Tryz.ntmps45
  go_upto_region 1 with fail
  generalize (w.alloc (.cells #[.slice a n c] 23)).alloc (.cells #[.int .i64 v] 3) = W at *
  have q0 := HB.out.b0
  go_wp2_with fail
  refine S.out.mono ?_
  rintro e w2 ⟨i, hi, rfl, f1, f2, hq⟩
  have F := Lib.hid (memF_ends OK.out f1 (by rw [LN.out]; exact f2))
  rw [LN.out] at F
  have HB2 := Lib.hid (HB.out.qt hq)
  have B2 := Lib.hid (over B.out hq.below)
  clear f1 f2 hq q0
  have q0 := HB2.out.b0
  have q1 := HB2.out.b1
  by_cases hlt : i < n
  · obtain ⟨g, o, rfl, dd⟩ := HB2.out.d.read (by omega)
    have p0 := (dd i hlt).1
    obtain ⟨x, hx⟩ : ∃ x, (sp d i).1 = x := ⟨_, rfl⟩
    rw [hx] at p0 F
    have hlt' : decide (i < n) = true := by simp [hlt]
    rw [hlt', Bool.true_and] at F
    clear dd hx
    go_upto_region 2 with fail
    go_quiet (fail)
    go_wp2_with fail
    go_ret
    exact ⟨by rw [F.out]; rfl, over B2.out (Qt.below ⟨nq, rfl⟩)⟩
  · obtain rfl : n = i := by omega
    have F2 : Hid (memF d v = false) := by show _ = _; rw [F.out]; simp
    clear hlt F
    go_upto_region 2 with fail
    go_quiet (fail)
    go_wp2_with fail
    go_ret
    exact ⟨by rw [F2.out]; rfl, over B2.out (Qt.below ⟨nq, rfl⟩)⟩
end Go.Proofs.YteiohgiecpibhaaGreat
