/- domain.New; state.listed, variable, value, choose by order and upwards; search.step. -/
import Derived.Test.YteiohgiecpibhaaGreatWo
set_option linter.unusedVariables false
set_option linter.unusedSimpArgs false
set_option maxRecDepth 100000
set_option maxHeartbeats 4000000
namespace Go.Proofs.YteiohgiecpibhaaGreat
open Go.RowKit Fdm

def VsIn (vs : List Int) (n : Nat) : Prop := ∀ i, i < vs.length → vs.getD i 0 = (((vs.getD i 0).toNat : Nat) : Int) ∧ (vs.getD i 0).toNat < n
theorem varF_none {D : List Dm} {vs : List Int} (h : ∀ i, i < vs.length → fixedF (dm D (vs.getD i 0).toNat) = true) : varF D vs = none := by
  unfold varF
  rw [Option.map_eq_none_iff, List.find?_eq_none]
  intro v hv
  obtain ⟨i, hi, rfl⟩ := List.getElem_of_mem hv
  have := h i hi
  rw [List.getD_eq_getElem?_getD, List.getElem?_eq_getElem hi] at this
  simpa using this
theorem varF_some {D : List Dm} : ∀ {vs : List Int} {k : Nat}, (∀ i, i < k → fixedF (dm D (vs.getD i 0).toNat) = true) → k < vs.length → fixedF (dm D (vs.getD k 0).toNat) = false → varF D vs = some (vs.getD k 0).toNat
  | [], k, _, h, _ => absurd h (Nat.not_lt_zero _)
  | v :: vs, 0, _, _, e => by
    have : fixedF (dm D v.toNat) = false := e
    simp [varF, List.find?, this]
  | v :: vs, k + 1, f, h, e => by
    have h0 : fixedF (dm D v.toNat) = true := f 0 (by omega)
    have := varF_some (D := D) (vs := vs) (k := k) (fun i hi => f (i + 1) (by omega)) (by simpa using h) e
    simp only [varF, List.find?, h0, Bool.not_true] at this ⊢
    exact this
theorem DsA.at_ {w : World} {D : List Dm} {a : Option Addr} {n v : Nat} (h : DsA w D a) (hn : D.length = n) (hv : v < n) : ∃ g o u, a = some ⟨g, o, none⟩ ∧ w.cell? ⟨g, o + v, none⟩ = some u ∧ DmV w (dm D v) u := by
  obtain ⟨g, o, e, k⟩ := h (by intro q; rw [q] at hn; simp at hn; omega)
  obtain ⟨u, p, q⟩ := k v (by omega)
  exact ⟨g, o, u, e, p, q⟩
theorem variable_any {w : World} {D : List Dm} {a va : Option Addr} {n c0 nv cv : Nat} {vp : Value} {vs : List Int} (h : DsA w D a) (hn : D.length = n) (hc : n ≤ c0) (hc2 : c0 ≤ 9223372036854775807) (hV : InA w vs va) (hvl : vs.length = nv) (hv1 : nv ≤ cv) (hv2 : cv ≤ 9223372036854775807) (hvi : VsIn vs n) :
    Calls Tryz.prog 109 #[.agg #[.slice a n c0, vp], .slice va nv cv, .int .i64 0] w fun e w' => (match varF D vs with | none => e = .returned (.tuple #[.int .i64 (-1), .bool false]) | some v => e = .returned (.tuple #[.int .i64 (v : Int), .bool true]) ∧ v < n) ∧ Below w.heap.size w w' := by
  obtain ⟨R, hRr⟩ : ∃ R : Ending → World → Prop, R = fun e w' => (match varF D vs with | none => e = .returned (.tuple #[.int .i64 (-1), .bool false]) | some v => e = .returned (.tuple #[.int .i64 (v : Int), .bool true]) ∧ v < n) ∧ Below w.heap.size w w' := ⟨_, rfl⟩
  rw [← hRr]
  have HR := Lib.hid hRr; have DA := Lib.hid h; have DN := Lib.hid hn; have VS := Lib.hid hV; have VL := Lib.hid hvl; have VI := Lib.hid hvi
  have B0 : Hid (Below w.heap.size w (w.alloc (.cells #[.slice a n c0, vp] 86))) := below_new _ _
  have X0 : Hid ((w.alloc (.cells #[.slice a n c0, vp] 86)).heap[w.heap.size]? = some (.cells #[.slice a n c0, vp] 86 (0, 0))) := heap_alloc_new _ _
  clear hRr h hn hV hvl hvi
  go_enter Tryz.func109, Tryz.ntmps109
  go_upto_region 5 with fail
  generalize w.alloc (.cells #[.slice a n c0, vp] 86) = W1 at *
  have S0 : Hid (W1.cell? ⟨w.heap.size, 0, none⟩ = some (.slice a n c0)) := by show _ = _; rw [cell_of_row _ _ _ _ _ _ X0.out]; rfl
  go_wp2_with fail
  go_loopw [8, 20] (fun v8 v20 wr => ∃ k : Nat, k ≤ nv ∧ v20 = .int .i64 (k : Int) ∧ v8 = .int .i64 (-1) ∧ (∀ i, i < k → fixedF (dm D (vs.getD i 0).toNat) = true) ∧ Qt W1 wr) (fun _ v20 _ => nv - (intOf v20).toNat)
  case atStart => exact ⟨0, Nat.zero_le _, rfl, rfl, fun i hi => absurd hi (Nat.not_lt_zero _), Qt.refl _⟩
  obtain ⟨k, hk, rfl, rfl, hf, hQ⟩ := hrel
  have F := Lib.hid hf; have Q := Lib.hid hQ
  clear hf hQ
  by_cases hlt : k < nv
  · obtain ⟨gv, ov, rfl, dd⟩ := VS.out (by intro e; have := VL.out; rw [e] at this; simp at this; omega)
    have p0 := dd k (by rw [VL.out]; exact hlt)
    clear dd
    have p0 := Q.out.cell (cell_later B0.out (Nat.le_refl _) p0)
    obtain ⟨e1, e2⟩ := VI.out k (by rw [VL.out]; exact hlt)
    rw [e1] at p0
    have NF := Lib.hid (varF_some (D := D) (vs := vs) F.out (by rw [VL.out]; exact hlt))
    have NX : Hid (fixedF (dm D (vs.getD k 0).toNat) = true → ∀ i, i < k + 1 → fixedF (dm D (vs.getD i 0).toNat) = true) := fun q i hi => by
      by_cases e : i = k
      · subst e; exact q
      · exact F.out i (by omega)
    obtain ⟨v, hv⟩ : ∃ v, (vs.getD k 0).toNat = v := ⟨_, rfl⟩
    rw [hv] at p0 e2 NF NX
    clear e1 hv
    obtain ⟨g, o, u, rfl, q0, q1⟩ := DA.out.at_ DN.out e2
    have q0 := Q.out.cell (cell_later B0.out (Nat.le_refl _) q0)
    have q1 := (q1.below B0.out).below Q.out.below
    obtain ⟨ua, uc, rfl, us⟩ := q1.s
    have FX := fixed_any us
    have s0 := Q.out.cell S0.out
    clear q1
    obtain ⟨t, ht⟩ : ∃ t, fixedF (dm D v) = t := ⟨_, rfl⟩
    rw [ht] at FX NX NF
    have FX := Lib.hid FX
    have US := Lib.hid us
    clear ht us
    cases t with
    | true =>
      have NX2 := Lib.hid (NX.out rfl)
      clear NX NF
      go_wp2_with (go_at_call 129; refine FX.out.mono ?_; rintro e w' ⟨rfl, hq⟩; have Q2 := Lib.hid (Q.out.trans hq); clear hq)
      go_roundw
      case rel => exact ⟨k + 1, by omega, by go_num, rfl, NX2.out, Q2.out⟩
      simp [intOf]; omega
    | false =>
      have NF2 := Lib.hid (NF.out rfl)
      have E2 := Lib.hid e2
      clear NX NF
      go_wp2_with (go_at_call 129; refine FX.out.mono ?_; rintro e w' ⟨rfl, hq⟩; have Q2 := Lib.hid (Q.out.trans hq); clear hq)
      rw [HR.out]
      dsimp only
      rw [NF2.out]
      exact ⟨⟨rfl, E2.out⟩, over B0.out Q2.out.below⟩
  · obtain rfl : nv = k := by omega
    have NF := Lib.hid (varF_none (D := D) (vs := vs) (by rw [VL.out]; exact F.out))
    go_wp2_with fail
    rw [HR.out]
    dsimp only
    rw [NF.out]
    exact ⟨rfl, over B0.out Q.out.below⟩
theorem value_any {w : World} {d : Dm} {a : Option Addr} {n c : Nat} (h : DmS w d a n c) (h0 : 0 < n) : Calls Tryz.prog 110 #[.slice a n c, .int .i64 0] w fun e w' => e = .returned (.int .i64 (leastF d)) ∧ w' = w := by
  have L := Lib.hid (least_any h h0)
  clear h
  go_enter Tryz.func110, Tryz.ntmps110
  go_wp2_with fail
  refine L.out.mono ?_
  rintro e w2 ⟨rfl, rfl⟩
  go_wp2_with fail
  go_ret
  exact ⟨rfl, rfl⟩
def ChPost (D : List Dm) (vs : List Int) (n : Nat) (w : World) (e : Ending) (w' : World) : Prop := (match varF D vs with | none => e = .returned (.tuple #[.int .i64 0, .int .i64 0, .bool false]) | some v => e = .returned (.tuple #[.int .i64 (v : Int), .int .i64 (leastF (dm D v)), .bool true]) ∧ v < n) ∧ Below w.heap.size w w'
theorem choose_any {w : World} {D : List Dm} {a va : Option Addr} {n c0 nv cv : Nat} {vp : Value} {vs : List Int} (h : DsA w D a) (hn : D.length = n) (hc : n ≤ c0) (hc2 : c0 ≤ 9223372036854775807) (hV : InA w vs va) (hvl : vs.length = nv) (hv1 : nv ≤ cv) (hv2 : cv ≤ 9223372036854775807) (hvi : VsIn vs n) (hne : ∀ v, v < n → dm D v ≠ []) :
    Calls Tryz.prog 94 #[.agg #[.slice a n c0, vp], .slice va nv cv, .int .i64 0, .int .i64 0] w (ChPost D vs n w) := by
  obtain ⟨R, hRr⟩ : ∃ R : Ending → World → Prop, R = ChPost D vs n w := ⟨_, rfl⟩
  rw [← hRr]
  have B0 : Hid (Below w.heap.size w (w.alloc (.cells #[.slice a n c0, vp] 86))) := below_new _ _
  have X0 : Hid ((w.alloc (.cells #[.slice a n c0, vp] 86)).heap[w.heap.size]? = some (.cells #[.slice a n c0, vp] 86 (0, 0))) := heap_alloc_new _ _
  have C := Lib.hid (variable_any (vp := vp) (h.below B0.out) hn hc hc2 (hV.below B0.out) hvl hv1 hv2 hvi)
  have HR := Lib.hid hRr; have DA := Lib.hid h; have DN := Lib.hid hn; have NE := Lib.hid hne
  clear hRr h hn hV hvl hvi hne
  go_enter Tryz.func94, Tryz.ntmps94
  go_upto_region 1 with fail
  generalize w.alloc (.cells #[.slice a n c0, vp] 86) = W1 at *
  have s0 : W1.cell? ⟨w.heap.size, 0, none⟩ = some (.slice a n c0) := by rw [cell_of_row _ _ _ _ _ _ X0.out]; rfl
  have s1 : W1.cell? ⟨w.heap.size, 1, none⟩ = some vp := by rw [cell_of_row _ _ _ _ _ _ X0.out]; rfl
  cases hvf : varF D vs with
  | none =>
    rw [hvf] at C
    have VF := Lib.hid hvf
    clear hvf
    go_wp2_with (go_at_call 109; refine C.out.mono ?_; rintro e w2 ⟨rfl, hb⟩; have B2 := Lib.hid hb; clear hb)
    refine bodyPost_ret (v := .tuple #[.int .i64 0, .int .i64 0, .bool false]) (by simp [results, Tryz.results94, go_sem]) rfl ?_
    rw [HR.out]
    exact ⟨by rw [VF.out], over B0.out B2.out⟩
  | some v =>
    rw [hvf] at C
    have VF := Lib.hid hvf
    clear hvf
    go_upto_region 2 with (go_at_call 109; refine C.out.mono ?_; rintro e w2 ⟨⟨rfl, hlt⟩, hb⟩; have B2 := Lib.hid hb; have VLT := Lib.hid hlt; clear hb hlt)
    have s0 := cell_later B2.out (Nat.le_refl _) s0
    obtain ⟨g, o, u, rfl, q0, q1⟩ := DA.out.at_ DN.out VLT.out
    have q0 := cell_later B2.out (Nat.le_refl _) (cell_later B0.out (Nat.le_refl _) q0)
    have q1 := (q1.below B0.out).below B2.out
    obtain ⟨ua, uc, rfl, us⟩ := q1.s
    have VA := Lib.hid (value_any us (by have := NE.out v VLT.out; exact List.length_pos_iff.2 this))
    have vlt := VLT.out
    clear q1 us s1
    go_wp2_with (go_at_call 110; refine VA.out.mono ?_; rintro e w' ⟨rfl, hw⟩; have hw := hw.symm; subst hw)
    refine bodyPost_ret (v := .tuple #[.int .i64 (v : Int), .int .i64 (leastF (dm D v)), .bool true]) (by simp [results, Tryz.results94, go_sem]) rfl ?_
    rw [HR.out]
    exact ⟨by rw [VF.out]; exact ⟨rfl, VLT.out⟩, over B0.out B2.out⟩
end Go.Proofs.YteiohgiecpibhaaGreat
