/- choose, narrowed, step. -/
import Derived.Test.YteiohgiecpibhaaGreatMG
set_option linter.unusedVariables false
set_option linter.unusedSimpArgs false
set_option maxRecDepth 100000
set_option maxHeartbeats 4000000
namespace Go.Proofs.YteiohgiecpibhaaGreat
open Go.RowKit Fdm

def VsIn (vs : List Int) (n : Nat) : Prop := ∀ i, i < vs.length → vs.getD i 0 = (((vs.getD i 0).toNat : Nat) : Int) ∧ (vs.getD i 0).toNat < n
theorem varF_none {D : List Dm} {vs : List Int} (h : ∀ i, i < vs.length → fixedF (dm D (vs.getD i 0).toNat) = true) : varF D vs = none := by
  unfold varF
  rw [Option.map_eq_none_iff, List.find?_eq_none]
  intro v hv
  obtain ⟨i, hi, rfl⟩ := List.getElem_of_mem hv
  have := h i hi
  rw [List.getD_eq_getElem?_getD, List.getElem?_eq_getElem hi] at this
  simpa using this
theorem varF_some {D : List Dm} : ∀ {vs : List Int} {k : Nat}, (∀ i, i < k → fixedF (dm D (vs.getD i 0).toNat) = true) → k < vs.length → fixedF (dm D (vs.getD k 0).toNat) = false → varF D vs = some (vs.getD k 0).toNat
  | [], k, _, h, _ => absurd h (Nat.not_lt_zero _)
  | v :: vs, 0, _, _, e => by
    have : fixedF (dm D v.toNat) = false := e
    simp [varF, List.find?, this]
  | v :: vs, k + 1, f, h, e => by
    have h0 : fixedF (dm D v.toNat) = true := f 0 (by omega)
    have := varF_some (D := D) (vs := vs) (k := k) (fun i hi => f (i + 1) (by omega)) (by simpa using h) e
    simp only [varF, List.find?, h0, Bool.not_true] at this ⊢
    exact this
theorem DsA.at_ {w : World} {D : List Dm} {a : Option Addr} {n v : Nat} (h : DsA w D a) (hn : D.length = n) (hv : v < n) : ∃ g o u, a = some ⟨g, o, none⟩ ∧ w.cell? ⟨g, o + v, none⟩ = some u ∧ DmV w (dm D v) u := by
  obtain ⟨g, o, e, k⟩ := h (by intro q; rw [q] at hn; simp at hn; omega)
  obtain ⟨u, p, q⟩ := k v (by omega)
  exact ⟨g, o, u, e, p, q⟩
theorem variable_any {w : World} {D : List Dm} {a va : Option Addr} {n c0 nv cv : Nat} {vp : Value} {vs : List Int} (h : DsA w D a) (hn : D.length = n) (hc : n ≤ c0) (hc2 : c0 ≤ 9223372036854775807) (hV : InA w vs va) (hvl : vs.length = nv) (hv1 : nv ≤ cv) (hv2 : cv ≤ 9223372036854775807) (hvi : VsIn vs n) :
    Calls Tryz.prog 109 #[.agg #[.slice a n c0, vp], .slice va nv cv, .int .i64 0] w fun e w' => (match varF D vs with | none => e = .returned (.tuple #[.int .i64 (-1), .bool false]) | some v => e = .returned (.tuple #[.int .i64 (v : Int), .bool true]) ∧ v < n) ∧ Below w.heap.size w w' := by
  obtain ⟨R, hRr⟩ : ∃ R : Ending → World → Prop, R = fun e w' => (match varF D vs with | none => e = .returned (.tuple #[.int .i64 (-1), .bool false]) | some v => e = .returned (.tuple #[.int .i64 (v : Int), .bool true]) ∧ v < n) ∧ Below w.heap.size w w' := ⟨_, rfl⟩
  rw [← hRr]
  have HR := Lib.hid hRr; have DA := Lib.hid h; have DN := Lib.hid hn; have VS := Lib.hid hV; have VL := Lib.hid hvl; have VI := Lib.hid hvi
  have B0 : Hid (Below w.heap.size w (w.alloc (.cells #[.slice a n c0, vp] 86))) := below_new _ _
  have X0 : Hid ((w.alloc (.cells #[.slice a n c0, vp] 86)).heap[w.heap.size]? = some (.cells #[.slice a n c0, vp] 86 (0, 0))) := heap_alloc_new _ _
  clear hRr h hn hV hvl hvi
  go_enter Tryz.func109, Tryz.ntmps109
  go_upto_region 5 with fail
  generalize w.alloc (.cells #[.slice a n c0, vp] 86) = W1 at *
  have S0 : Hid (W1.cell? ⟨w.heap.size, 0, none⟩ = some (.slice a n c0)) := by show _ = _; rw [cell_of_row _ _ _ _ _ _ X0.out]; rfl
  go_wp2_with fail
  go_loopw [8, 20] (fun v8 v20 wr => ∃ k : Nat, k ≤ nv ∧ v20 = .int .i64 (k : Int) ∧ v8 = .int .i64 (-1) ∧ (∀ i, i < k → fixedF (dm D (vs.getD i 0).toNat) = true) ∧ Qt W1 wr) (fun _ v20 _ => nv - (intOf v20).toNat)
  case atStart => exact ⟨0, Nat.zero_le _, rfl, rfl, fun i hi => absurd hi (Nat.not_lt_zero _), Qt.refl _⟩
  obtain ⟨k, hk, rfl, rfl, hf, hQ⟩ := hrel
  have F := Lib.hid hf; have Q := Lib.hid hQ
  clear hf hQ
  by_cases hlt : k < nv
  · obtain ⟨gv, ov, rfl, dd⟩ := VS.out (by intro e; have := VL.out; rw [e] at this; simp at this; omega)
    have p0 := dd k (by rw [VL.out]; exact hlt)
    clear dd
    have p0 := Q.out.cell (cell_later B0.out (Nat.le_refl _) p0)
    obtain ⟨e1, e2⟩ := VI.out k (by rw [VL.out]; exact hlt)
    rw [e1] at p0
    have NF := Lib.hid (varF_some (D := D) (vs := vs) F.out (by rw [VL.out]; exact hlt))
    have NX : Hid (fixedF (dm D (vs.getD k 0).toNat) = true → ∀ i, i < k + 1 → fixedF (dm D (vs.getD i 0).toNat) = true) := fun q i hi => by
      by_cases e : i = k
      · subst e; exact q
      · exact F.out i (by omega)
    obtain ⟨v, hv⟩ : ∃ v, (vs.getD k 0).toNat = v := ⟨_, rfl⟩
    rw [hv] at p0 e2 NF NX
    clear e1 hv
    obtain ⟨g, o, u, rfl, q0, q1⟩ := DA.out.at_ DN.out e2
    have q0 := Q.out.cell (cell_later B0.out (Nat.le_refl _) q0)
    have q1 := (q1.below B0.out).below Q.out.below
    obtain ⟨ua, uc, rfl, us⟩ := q1.s
    have FX := fixed_any us
    have s0 := Q.out.cell S0.out
    clear q1
    obtain ⟨t, ht⟩ : ∃ t, fixedF (dm D v) = t := ⟨_, rfl⟩
    rw [ht] at FX NX NF
    have FX := Lib.hid FX
    have US := Lib.hid us
    clear ht us
    cases t with
    | true =>
      have NX2 := Lib.hid (NX.out rfl)
      clear NX NF
      go_wp2_with (go_at_call 129; refine FX.out.mono ?_; rintro e w' ⟨rfl, hq⟩; have Q2 := Lib.hid (Q.out.trans hq); clear hq)
      go_roundw
      case rel => exact ⟨k + 1, by omega, by go_num, rfl, NX2.out, Q2.out⟩
      simp [intOf]; omega
    | false =>
      have NF2 := Lib.hid (NF.out rfl)
      have E2 := Lib.hid e2
      clear NX NF
      go_wp2_with (go_at_call 129; refine FX.out.mono ?_; rintro e w' ⟨rfl, hq⟩; have Q2 := Lib.hid (Q.out.trans hq); clear hq)
      rw [HR.out]
      dsimp only
      rw [NF2.out]
      exact ⟨⟨rfl, E2.out⟩, over B0.out Q2.out.below⟩
  · obtain rfl : nv = k := by omega
    have NF := Lib.hid (varF_none (D := D) (vs := vs) (by rw [VL.out]; exact F.out))
    go_wp2_with fail
    rw [HR.out]
    dsimp only
    rw [NF.out]
    exact ⟨rfl, over B0.out Q.out.below⟩
theorem value_any {w : World} {d : Dm} {a : Option Addr} {n c : Nat} (h : DmS w d a n c) (h0 : 0 < n) : Calls Tryz.prog 110 #[.slice a n c, .int .i64 0] w fun e w' => e = .returned (.int .i64 (leastF d)) ∧ w' = w := by
  have L := Lib.hid (least_any h h0)
  clear h
  go_enter Tryz.func110, Tryz.ntmps110
  go_wp2_with fail
  refine L.out.mono ?_
  rintro e w2 ⟨rfl, rfl⟩
  go_wp2_with fail
  go_ret
  exact ⟨rfl, rfl⟩
def ChPost (D : List Dm) (vs : List Int) (n : Nat) (w : World) (e : Ending) (w' : World) : Prop := (match varF D vs with | none => e = .returned (.tuple #[.int .i64 0, .int .i64 0, .bool false]) | some v => e = .returned (.tuple #[.int .i64 (v : Int), .int .i64 (leastF (dm D v)), .bool true]) ∧ v < n) ∧ Below w.heap.size w w'
theorem choose_any {w : World} {D : List Dm} {a va : Option Addr} {n c0 nv cv : Nat} {vp : Value} {vs : List Int} (h : DsA w D a) (hn : D.length = n) (hc : n ≤ c0) (hc2 : c0 ≤ 9223372036854775807) (hV : InA w vs va) (hvl : vs.length = nv) (hv1 : nv ≤ cv) (hv2 : cv ≤ 9223372036854775807) (hvi : VsIn vs n) (hne : ∀ v, v < n → dm D v ≠ []) :
    Calls Tryz.prog 94 #[.agg #[.slice a n c0, vp], .slice va nv cv, .int .i64 0, .int .i64 0] w (ChPost D vs n w) := by
  obtain ⟨R, hRr⟩ : ∃ R : Ending → World → Prop, R = ChPost D vs n w := ⟨_, rfl⟩
  rw [← hRr]
  have B0 : Hid (Below w.heap.size w (w.alloc (.cells #[.slice a n c0, vp] 86))) := below_new _ _
  have X0 : Hid ((w.alloc (.cells #[.slice a n c0, vp] 86)).heap[w.heap.size]? = some (.cells #[.slice a n c0, vp] 86 (0, 0))) := heap_alloc_new _ _
  have C := Lib.hid (variable_any (vp := vp) (h.below B0.out) hn hc hc2 (hV.below B0.out) hvl hv1 hv2 hvi)
  have HR := Lib.hid hRr; have DA := Lib.hid h; have DN := Lib.hid hn; have NE := Lib.hid hne
  clear hRr h hn hV hvl hvi hne
  go_enter Tryz.func94, Tryz.ntmps94
  go_upto_region 1 with fail
  generalize w.alloc (.cells #[.slice a n c0, vp] 86) = W1 at *
  have s0 : W1.cell? ⟨w.heap.size, 0, none⟩ = some (.slice a n c0) := by rw [cell_of_row _ _ _ _ _ _ X0.out]; rfl
  have s1 : W1.cell? ⟨w.heap.size, 1, none⟩ = some vp := by rw [cell_of_row _ _ _ _ _ _ X0.out]; rfl
  cases hvf : varF D vs with
  | none =>
    rw [hvf] at C
    have VF := Lib.hid hvf
    clear hvf
    go_wp2_with (go_at_call 109; refine C.out.mono ?_; rintro e w2 ⟨rfl, hb⟩; have B2 := Lib.hid hb; clear hb)
    refine bodyPost_ret (v := .tuple #[.int .i64 0, .int .i64 0, .bool false]) (by simp [results, Tryz.results94, go_sem]) rfl ?_
    rw [HR.out]
    exact ⟨by rw [VF.out], over B0.out B2.out⟩
  | some v =>
    rw [hvf] at C
    have VF := Lib.hid hvf
    clear hvf
    go_upto_region 2 with (go_at_call 109; refine C.out.mono ?_; rintro e w2 ⟨⟨rfl, hlt⟩, hb⟩; have B2 := Lib.hid hb; have VLT := Lib.hid hlt; clear hb hlt)
    have s0 := cell_later B2.out (Nat.le_refl _) s0
    obtain ⟨g, o, u, rfl, q0, q1⟩ := DA.out.at_ DN.out VLT.out
    have q0 := cell_later B2.out (Nat.le_refl _) (cell_later B0.out (Nat.le_refl _) q0)
    have q1 := (q1.below B0.out).below B2.out
    obtain ⟨ua, uc, rfl, us⟩ := q1.s
    have VA := Lib.hid (value_any us (by have := NE.out v VLT.out; exact List.length_pos_iff.2 this))
    have vlt := VLT.out
    clear q1 us s1
    go_wp2_with (go_at_call 110; refine VA.out.mono ?_; rintro e w' ⟨rfl, hw⟩; have hw := hw.symm; subst hw)
    refine bodyPost_ret (v := .tuple #[.int .i64 (v : Int), .int .i64 (leastF (dm D v)), .bool true]) (by simp [results, Tryz.results94, go_sem]) rfl ?_
    rw [HR.out]
    exact ⟨by rw [VF.out]; exact ⟨rfl, VLT.out⟩, over B0.out B2.out⟩
end Go.Proofs.YteiohgiecpibhaaGreat
set_option linter.unusedVariables false
set_option linter.unusedSimpArgs false
set_option maxRecDepth 100000
set_option maxHeartbeats 4000000
namespace Go.Proofs.YteiohgiecpibhaaGreat
open Go.RowKit Fdm

/-- A list of domains in memory of its own kind. -/
def DsK (w : World) (D : List Dm) (a : Option Addr) : Prop := D ≠ [] → ∃ g o, a = some ⟨g, o, none⟩ ∧ Blk w g 23 ∧ ∀ i, i < D.length → ∃ u, w.cell? ⟨g, o + i, none⟩ = some u ∧ DmV w (dm D i) u
theorem DsK.a {w : World} {D : List Dm} {a : Option Addr} (h : DsK w D a) : DsA w D a := fun hne => by obtain ⟨g, o, e, _, k⟩ := h hne; exact ⟨g, o, e, k⟩
theorem DsK.below {w w' : World} {D : List Dm} {a : Option Addr} (h : DsK w D a) (hb : Below w.heap.size w w') : DsK w' D a := fun hne => by
  obtain ⟨g, o, e, b, k⟩ := h hne
  refine ⟨g, o, e, b.keep (hb.block _ b.lt), fun i hi => ?_⟩
  obtain ⟨u, p, q⟩ := k i hi
  exact ⟨u, cell_later hb (Nat.le_refl _) p, q.below hb⟩
theorem DsG.k {w : World} {g : Nat} {D : List Dm} (h : DsG w g D) : DsK w D (some ⟨g, 0, none⟩) := fun _ => ⟨g, 0, rfl, h.blk, fun i hi => by obtain ⟨u, p, q⟩ := h.cs i hi; exact ⟨u, by rw [Nat.zero_add]; exact p, q⟩⟩
/-- A state in memory. -/
structure StA (w : World) (n : Nat) (pa : Option Addr) (np : Nat) (D : List Dm) (vd vp : Value) : Prop where
  ex : ∃ a c pc, vd = .slice a n c ∧ n ≤ c ∧ c ≤ 9223372036854775807 ∧ DsK w D a ∧ D.length = n ∧ vp = .slice pa np pc ∧ np ≤ pc ∧ pc ≤ 9223372036854775807
def NaPost (w : World) (n : Nat) (pa : Option Addr) (np : Nat) (r : List Dm × Bool) (e : Ending) (w' : World) : Prop :=
  (∃ vd vp, e = .returned (.tuple #[.agg #[vd, vp], .bool r.2]) ∧ (r.2 = true → StA w' n pa np r.1 vd vp) ∧ (∃ a m c, vd = .slice a m c) ∧ ∃ a m c, vp = .slice a m c) ∧ Below w.heap.size w w'
/-- What a store's calls of rules ask and answer. -/
structure Env (ru : Con → List Dm → List Dm) (G : Con → List Dm → Bool) (P : List Con) (n : Nat) : Prop where
  vars : ∀ i, i < P.length → VarsIn (con P i) n ∧ (con P i).vars.length ≤ 90
  len : P.length ≤ 1000
  ru : ∀ i D, i < P.length → G (con P i) D = true → RuOk ru (con P i) D
theorem PsV.slice {w : World} {P : List Con} {a : Option Addr} {n c c' : Nat} (h : PsV w P (.slice a n c)) (h1 : n ≤ c') (h2 : c' ≤ 9223372036854775807) : PsV w P (.slice a n c') := by
  obtain ⟨a', c0, e, l1, l2, hB⟩ := h.ex
  simp only [Value.slice.injEq] at e
  obtain ⟨rfl, rfl, rfl⟩ := e
  exact ⟨_, c', rfl, h1, h2, hB⟩
theorem PsV.len {w : World} {P : List Con} {a : Option Addr} {n c : Nat} (h : PsV w P (.slice a n c)) : P.length = n := by
  obtain ⟨a', c0, e, l1, l2, hB⟩ := h.ex
  simp only [Value.slice.injEq] at e
  exact e.2.1.symm
theorem stN_len {ru : Con → List Dm → List Dm} {G : Con → List Dm → Bool} {P : List Con} : ∀ {f : Nat} {D : List Dm} {w : List Bool} {r : List Dm × Bool}, stN ru G P f D w = some r → r.1.length = D.length
  | 0, _, _, _, h => by simp [stN] at h
  | f + 1, D, w, r, h => by
    simp only [stN] at h
    split at h
    · rw [← Option.some.inj h]
    · split at h
      · split at h
        · rw [← Option.some.inj h]
        · rename_i q
          rw [stN_len h]; exact apTo_len q
      · simp at h
theorem narrowed_any {w : World} {D : List Dm} {a pa da : Option Addr} {n c0 np pc v dn dc f : Nat} {P : List Con} {d : Dm} {ru : Con → List Dm → List Dm} {G : Con → List Dm → Bool} {r : List Dm × Bool}
    (h : DsK w D a) (hn : D.length = n) (hc : n ≤ c0) (hc2 : c0 ≤ 9223372036854775807) (h1000 : n ≤ 1000) (hP : PsV w P (.slice pa np pc)) (hp1 : np ≤ pc) (hp2 : pc ≤ 9223372036854775807) (hv : v < n) (hd : DmV w d (.slice da dn dc)) (E : Env ru G P n) (hst : narF ru G P f D v d = some r) :
    Calls Tryz.prog 97 #[.agg #[.slice a n c0, .slice pa np pc], .int .i64 (v : Int), .slice da dn dc] w (NaPost w n pa np r) := by
  obtain ⟨R, hRr⟩ : ∃ R : Ending → World → Prop, R = NaPost w n pa np r := ⟨_, rfl⟩
  rw [← hRr]
  have HR := Lib.hid hRr
  obtain ⟨da', dc', de, ds⟩ := hd.s
  simp only [Value.slice.injEq] at de
  obtain ⟨rfl, rfl, rfl⟩ := de
  obtain ⟨b0, b1, b2, b3⟩ := alloc2 w (.cells #[.slice a n c0, .slice pa np pc] 86) (.cells #[.slice none 0 0, .slice none 0 0] 86)
  have DA := Lib.hid h; have DN := Lib.hid hn; have PS := Lib.hid hP; have DV := Lib.hid hd; have EN := Lib.hid E; have ST := Lib.hid hst; have DS := Lib.hid ds
  have B0 := Lib.hid b0; have B1 := Lib.hid b1; have B2 := Lib.hid b2; have B3 := Lib.hid b3
  clear hRr h hn hP hd E hst b0 b1 b2 b3 ds
  go_enter Tryz.func97, Tryz.ntmps97
  go_upto_region 1 with fail
  generalize (w.alloc (.cells #[.slice a n c0, .slice pa np pc] 86)).alloc (.cells #[.slice none 0 0, .slice none 0 0] 86) = W1 at *
  obtain ⟨gs, hgs⟩ : ∃ gs, w.heap.size = gs := ⟨_, rfl⟩
  rw [hgs] at B0 B1 B3 ⊢
  have GS := Lib.hid hgs
  clear hgs
  by_cases d0 : d = []
  · subst d0
    have RR : Hid (r = (D, false)) := by
      have := ST.out
      unfold narF at this
      rw [if_pos rfl] at this
      exact (Option.some.inj this).symm
    have l0 : ((([] : Dm).length : Nat) : Int) = 0 := rfl
    have q0 : W1.cell? ⟨gs + 1, 0, none⟩ = some (.slice none 0 0) := by rw [cell_of_row _ _ _ _ _ _ B1.out]; rfl
    have q1 : W1.cell? ⟨gs + 1, 1, none⟩ = some (.slice none 0 0) := by rw [cell_of_row _ _ _ _ _ _ B1.out]; rfl
    have f0 : W1.frozen? ⟨gs + 1, 0, none⟩ = false := by simp [World.frozen?, B1.out]
    have f1 : W1.frozen? ⟨gs + 1, 1, none⟩ = false := by simp [World.frozen?, B1.out]
    obtain ⟨W9, hW9⟩ : ∃ W9, ((W1.setCell ⟨gs + 1, 0, none⟩ (.slice none 0 0)).setCell ⟨gs + 1, 1, none⟩ (.slice none 0 0)) = W9 := ⟨_, rfl⟩
    have S9 : W9.heap[gs + 1]? = some (.cells #[.slice none 0 0, .slice none 0 0] 86 (0, 0)) := by rw [← hW9]; exact set2 B1.out
    have r0 : W9.cell? ⟨gs + 1, 0, none⟩ = some (.slice none 0 0) := by rw [cell_of_row W9 _ 0 _ _ _ S9]; rfl
    have r1 : W9.cell? ⟨gs + 1, 1, none⟩ = some (.slice none 0 0) := by rw [cell_of_row W9 _ 1 _ _ _ S9]; rfl
    have B9 : Hid (Below w.heap.size w W9) := by show Below _ _ _; rw [← hW9]; exact below_set2 B2.out (by have := GS.out; omega) _ _
    go_wp2_with fail
    refine bodyPost_ret (v := .tuple #[.agg #[.slice none 0 0, .slice none 0 0], .bool false]) (by simp [results, Tryz.results97, go_sem, r0, r1]) rfl ?_
    rw [HR.out]
    exact ⟨⟨_, _, by rw [RR.out], fun q => (by rw [RR.out] at q; cases q), ⟨_, _, _, rfl⟩, ⟨_, _, _, rfl⟩⟩, B9.out⟩
  · have l0 : (((d.length : Nat) : Int) == 0) = false := by simp; exact d0
    have s0 : W1.cell? ⟨gs, 0, none⟩ = some (.slice a n c0) := by rw [cell_of_row _ _ _ _ _ _ B0.out]; rfl
    have s1 : W1.cell? ⟨gs, 1, none⟩ = some (.slice pa np pc) := by rw [cell_of_row _ _ _ _ _ _ B0.out]; rfl
    obtain ⟨g, o, u, rfl, q0, q1⟩ := DA.out.a.at_ DN.out hv
    have q0 := cell_later B2.out (Nat.le_refl _) q0
    have q1 := q1.below B2.out
    obtain ⟨ua, uc, rfl, us⟩ := q1.s
    have EQ := Lib.hid (equal_any (DS.out.below B2.out) us)
    clear q1 us
    by_cases de : d = dm D v
    · have RR : Hid (r = (D, true)) := by
        have := ST.out
        unfold narF at this
        rw [if_neg d0, if_pos de] at this
        exact (Option.some.inj this).symm
      rw [decide_eq_true de] at EQ
      clear d0 de
      go_upto_region 4 with (go_at_call 111; refine EQ.out.mono ?_; rintro e w2 ⟨rfl, hq⟩; have Q2 := Lib.hid hq; clear hq)
      have s0 := Q2.out.cell s0; have s1 := Q2.out.cell s1
      have B12 : Hid (w2.heap[gs + 1]? = some (.cells #[.slice none 0 0, .slice none 0 0] 86 (0, 0))) := (Q2.out.same _).trans B1.out
      have z0 : w2.cell? ⟨gs + 1, 0, none⟩ = some (.slice none 0 0) := by rw [cell_of_row _ _ _ _ _ _ B12.out]; rfl
      have z1 : w2.cell? ⟨gs + 1, 1, none⟩ = some (.slice none 0 0) := by rw [cell_of_row _ _ _ _ _ _ B12.out]; rfl
      have f0 : w2.frozen? ⟨gs + 1, 0, none⟩ = false := by simp [World.frozen?, B12.out]
      have f1 : w2.frozen? ⟨gs + 1, 1, none⟩ = false := by simp [World.frozen?, B12.out]
      obtain ⟨W9, hW9⟩ : ∃ W9, ((w2.setCell ⟨gs + 1, 0, none⟩ (.slice (some ⟨g, o, none⟩) n c0)).setCell ⟨gs + 1, 1, none⟩ (.slice pa np pc)) = W9 := ⟨_, rfl⟩
      have S9 : W9.heap[gs + 1]? = some (.cells #[.slice (some ⟨g, o, none⟩) n c0, .slice pa np pc] 86 (0, 0)) := by rw [← hW9]; exact set2 B12.out
      have r0 : W9.cell? ⟨gs + 1, 0, none⟩ = some (.slice (some ⟨g, o, none⟩) n c0) := by rw [cell_of_row W9 _ 0 _ _ _ S9]; rfl
      have r1 : W9.cell? ⟨gs + 1, 1, none⟩ = some (.slice pa np pc) := by rw [cell_of_row W9 _ 1 _ _ _ S9]; rfl
      have B9 : Hid (Below w.heap.size w W9) := by show Below _ _ _; rw [← hW9]; exact below_set2 (over B2.out Q2.out.below) (by have := GS.out; omega) _ _
      go_wp2_with fail
      refine bodyPost_ret (v := .tuple #[.agg #[.slice (some ⟨g, o, none⟩) n c0, .slice pa np pc], .bool true]) (by simp [results, Tryz.results97, go_sem, r0, r1]) rfl ?_
      rw [HR.out]
      exact ⟨⟨_, _, by rw [RR.out], fun _ => ⟨_, _, _, rfl, hc, hc2, by rw [RR.out]; exact DA.out.below B9.out, by rw [RR.out]; exact DN.out, rfl, hp1, hp2⟩, ⟨_, _, _, rfl⟩, ⟨_, _, _, rfl⟩⟩, B9.out⟩
    · have ST2 : Hid (stF ru G P f (D.set v d) [(v : Int)] P.length = some r) := by
        have := ST.out
        unfold narF at this
        rw [if_neg d0, if_neg de] at this
        exact this
      rw [decide_eq_false de] at EQ
      clear d0 de ST
      have DL : Hid (D ≠ []) := fun q => by have := DN.out; rw [q] at this; simp at this; omega
      go_upto_region 5 with (go_at_call 111; refine EQ.out.mono ?_; rintro e w2 ⟨rfl, hq⟩; have Q2 := Lib.hid hq; clear hq)
      have s0 := Q2.out.cell s0; have s1 := Q2.out.cell s1
      have BW2 : Hid (Below w.heap.size w w2) := over B2.out Q2.out.below
      have CO := Lib.hid (copied_any (c0 := c0) (pa := pa) (DA.out.below BW2.out).a DN.out hc hc2 hp1 hp2 h1000)
      go_upto_region 6 with (go_at_call 65; refine CO.out.mono ?_; rintro e w3 ⟨v3, rfl, hO, hb⟩; have BB3 := Lib.hid hb; obtain ⟨a3, c3, rfl, l31, l32, hG⟩ := hO; have HG := Lib.hid hG; clear hb hG)
      obtain ⟨g3, rfl, hg3, hG3⟩ := HG.out DL.out
      rw [DN.out] at l31 ⊢
      have W3L : Hid (w.heap.size + 2 ≤ w3.heap.size) := by have := BB3.out.size; have := Q2.out.below.size; have := B3.out; have := GS.out; show _ ≤ _; omega
      have BW3 : Hid (Below w.heap.size w w3) := over BW2.out BB3.out
      have C3 : Hid (w3.heap[gs + 1]? = some (.cells #[.slice none 0 0, .slice none 0 0] 86 (0, 0))) := (BB3.out.block _ (by have := Q2.out.below.size; have := B3.out; omega)).trans ((Q2.out.same _).trans B1.out)
      have nb := heap_alloc_new w3 (.cells #[.slice (some ⟨g3, 0, none⟩) n c3, .slice pa np np] 86)
      have bb := below_new w3 (.cells #[.slice (some ⟨g3, 0, none⟩) n c3, .slice pa np np] 86)
      have sz := World.size_alloc w3 (.cells #[.slice (some ⟨g3, 0, none⟩) n c3, .slice pa np np] 86)
      have NB := Lib.hid nb; have BB4 := Lib.hid bb; have SZ := Lib.hid sz
      have G4 := Lib.hid (hG3.below bb)
      have G3L : Hid (g3 < w3.heap.size) := hG3.blk.lt
      have HG3 := Lib.hid hg3
      clear nb bb sz hG3 hg3 HG s0 s1 q0 EQ
      generalize w3.alloc (.cells #[.slice (some ⟨g3, 0, none⟩) n c3, .slice pa np np] 86) = W4 at *
      obtain ⟨g8, hg8⟩ : ∃ g8, w3.heap.size = g8 := ⟨_, rfl⟩
      rw [hg8] at NB W3L G3L SZ ⊢
      have G8 := Lib.hid hg8
      clear hg8
      have s0 : W4.cell? ⟨g8, 0, none⟩ = some (.slice (some ⟨g3, 0, none⟩) n c3) := by rw [cell_of_row _ _ _ _ _ _ NB.out]; rfl
      obtain ⟨u4, t0, -⟩ := G4.out.cs v (by rw [DN.out]; exact hv)
      have fz := G4.out.blk.free v
      obtain ⟨W5, hW5⟩ : ∃ W5, W4.setCell ⟨g3, v, none⟩ (.slice da d.length dc) = W5 := ⟨_, rfl⟩
      have BT5 : But g3 W4 W5 := by rw [← hW5]; exact But.setCell _ _ _ _
      have G5 : Hid (DsG W5 g3 (D.set v d)) := by show DsG _ _ _; rw [← hW5]; exact G4.out.set (by rw [DN.out]; exact hv) (DV.out.below (over BW3.out BB4.out))
      have KX5 := BT5.kp G4.out.blk
      have S5 : Hid (W5.heap[g8]? = some (.cells #[.slice (some ⟨g3, 0, none⟩) n c3, .slice pa np np] 86 (0, 0))) := (KX5 g8 86 ⟨_, NB.out⟩ (by decide)).trans NB.out
      have C5 : Hid (W5.heap[gs + 1]? = some (.cells #[.slice none 0 0, .slice none 0 0] 86 (0, 0))) := by
        have c4 : W4.heap[gs + 1]? = some (.cells #[.slice none 0 0, .slice none 0 0] 86 (0, 0)) := (BB4.out.block _ (by have := W3L.out; have := GS.out; have := G8.out; omega)).trans C3.out
        exact (KX5 (gs + 1) 86 ⟨_, c4⟩ (by decide)).trans c4
      have BW5 : Hid (Below w.heap.size w W5) := BT5.below (by have := HG3.out; have := BW2.out.size; omega) (by have := (over BW3.out BB4.out).size; exact this) (over BW3.out BB4.out)
      have Z5 : Hid (g8 + 1 ≤ W5.heap.size) := by have := BT5.size; have := SZ.out; show _ ≤ _; omega
      have PS5 := Lib.hid ((PS.out.slice (Nat.le_refl np) (by omega : np ≤ 9223372036854775807)).kp (KpT.of_below BW5.out))
      go_upto_region 7 with fail
      clear s0 t0 fz hW5 KX5 BT5 G4 NB BB4 SZ C3 CO
      have D0 : Below W5.heap.size W5 W5.drew := (Below.refl _ _).drew
      refine Rg.s2 9 [] (fun W => W.cell? ⟨g8, 0, none⟩ = some (.slice (some ⟨g3, 0, none⟩) n c3) ∧ W.cell? ⟨g8, 1, none⟩ = some (.slice pa np np)) ⟨by rw [cell_of_row W5.drew g8 0 _ _ _ S5.out]; rfl, by rw [cell_of_row W5.drew g8 1 _ _ _ S5.out]; rfl⟩ ?_
      generalize W5.drew = w5 at *
      refine Rg.t 0 ?_
      refine Rg.t 1 ?_
      refine Rg.t 2 ?_
      refine Rg.t 4 ?_
      refine Rg.t 5 ?_
      refine Rg.t 6 ?_
      refine Rg.c1 3 fun K' hK => ?_
      have B6 : Below W5.heap.size W5 (w5.alloc (.cells #[.int .i64 (v : Int)] 3)) := over D0 (below_new w5 _)
      have I6 : InA (w5.alloc (.cells #[.int .i64 (v : Int)] 3)) [(v : Int)] (some ⟨w5.heap.size, 0, none⟩) := fun _ => ⟨_, 0, rfl, fun i hi => by
        obtain rfl : i = 0 := by simpa using hi
        rw [cell_of_row _ _ _ _ _ _ (heap_alloc_new w5 _)]; rfl⟩
      (try simp only [zA, zB, zC])
      go_simp
      have h8 : (w5.alloc (.cells #[.int .i64 (v : Int)] 3)).heap[g8]? = some (.cells #[.slice (some ⟨g3, 0, none⟩) n c3, .slice pa np np] 86 (0, 0)) := (B6.block g8 (by have := Z5.out; omega)).trans S5.out
      refine Rg.e1 hK ⟨by rw [cell_of_row _ g8 0 _ _ _ h8]; rfl, by rw [cell_of_row _ g8 1 _ _ _ h8]; rfl⟩ ?_
      clear hK K'
      generalize w5.alloc (.cells #[.int .i64 (v : Int)] 3) = w6 at *
      generalize w5.heap.size = g9 at *
      have PL := PS.out.len
      have ST3 := ST2.out
      rw [PL] at ST3
      have SB := stable_any (first := np) (G5.out.below B6) (by rw [List.length_set]; exact DN.out) l31 l32 (PS5.out.kp (KpT.of_below B6)) I6 rfl (Nat.le_refl 1) (by omega) (by omega) (fun i hi => EN.out.vars i (by rw [PL]; exact hi)) (by have := EN.out.len; omega) ST3 (fun i D hi => EN.out.ru i D (by rw [PL]; exact hi))
      refine Rg.c1 7 fun K' hK => ?_
      go_simp
      go_at_call 102
      refine SB.mono ?_
      rintro e w7 ⟨rfl, hb7, hg7⟩
      have KX7 := hb7.kp (G5.out.below B6).blk
      have h87 := (KX7 g8 86 ⟨_, h8⟩ (by decide)).trans h8
      have hc6 : w6.heap[gs + 1]? = some (.cells #[.slice none 0 0, .slice none 0 0] 86 (0, 0)) := (B6.block (gs + 1) (by have := Z5.out; have := W3L.out; have := GS.out; have := G8.out; omega)).trans C5.out
      have hc7 := (KX7 (gs + 1) 86 ⟨_, hc6⟩ (by decide)).trans hc6
      have BW7 : Hid (Below w.heap.size w w7) := hb7.below (by have := HG3.out; have := BW2.out.size; omega) (by have := (over BW5.out B6).size; exact this) (over BW5.out B6)
      have HG7 := Lib.hid hg7
      have S7 : w7.cell? ⟨g8, 0, none⟩ = some (.slice (some ⟨g3, 0, none⟩) n c3) ∧ w7.cell? ⟨g8, 1, none⟩ = some (.slice pa np np) := ⟨by rw [cell_of_row _ g8 0 _ _ _ h87]; rfl, by rw [cell_of_row _ g8 1 _ _ _ h87]; rfl⟩
      refine Rg.e1 hK S7 ?_
      clear hK K' SB ST3 I6 B6 D0 h8 hc6 KX7 hb7 hg7
      have z0 : w7.cell? ⟨gs + 1, 0, none⟩ = some (.slice none 0 0) := by rw [cell_of_row _ _ _ _ _ _ hc7]; rfl
      have z1 : w7.cell? ⟨gs + 1, 1, none⟩ = some (.slice none 0 0) := by rw [cell_of_row _ _ _ _ _ _ hc7]; rfl
      have f0 : w7.frozen? ⟨gs + 1, 0, none⟩ = false := by simp [World.frozen?, hc7]
      have f1 : w7.frozen? ⟨gs + 1, 1, none⟩ = false := by simp [World.frozen?, hc7]
      obtain ⟨W9, hW9⟩ : ∃ W9, ((w7.setCell ⟨gs + 1, 0, none⟩ (.slice (some ⟨g3, 0, none⟩) n c3)).setCell ⟨gs + 1, 1, none⟩ (.slice pa np np)) = W9 := ⟨_, rfl⟩
      have S9 : W9.heap[gs + 1]? = some (.cells #[.slice (some ⟨g3, 0, none⟩) n c3, .slice pa np np] 86 (0, 0)) := by rw [← hW9]; exact set2 hc7
      have r0 : W9.cell? ⟨gs + 1, 0, none⟩ = some (.slice (some ⟨g3, 0, none⟩) n c3) := by rw [cell_of_row W9 _ 0 _ _ _ S9]; rfl
      have r1 : W9.cell? ⟨gs + 1, 1, none⟩ = some (.slice pa np np) := by rw [cell_of_row W9 _ 1 _ _ _ S9]; rfl
      have B9 : Hid (Below w.heap.size w W9) := by show Below _ _ _; rw [← hW9]; exact below_set2 BW7.out (by have := GS.out; omega) _ _
      have h89 : W9.heap[g8]? = some (.cells #[.slice (some ⟨g3, 0, none⟩) n c3, .slice pa np np] 86 (0, 0)) := by rw [← hW9]; exact (oth_set2 (by have := W3L.out; have := GS.out; omega) _ _).trans h87
      have OTH : Hid (∀ b, b ≠ gs + 1 → W9.heap[b]? = w7.heap[b]?) := fun b hb => by rw [← hW9]; exact oth_set2 hb _ _
      have BK : Hid (Blk w7 (gs + 1) 86) := ⟨_, hc7⟩
      refine Rg.c1 8 fun K' hK => ?_
      (try simp only [zA, zB, zC])
      go_simp
      refine Rg.e1 hK ⟨by rw [cell_of_row W9 g8 0 _ _ _ h89]; rfl, by rw [cell_of_row W9 g8 1 _ _ _ h89]; rfl⟩ ?_
      clear hK K' z0 z1 f0 f1 hW9 h89 S9 S7 hc7 h87
      refine Rg.l1 ?_
      (try simp only [zA, zB, zC])
      go_simp
      go_wp2_with fail
      refine bodyPost_ret (v := .tuple #[.agg #[.slice (some ⟨g3, 0, none⟩) n c3, .slice pa np np], .bool r.2]) (by simp [results, Tryz.results97, go_sem, r0, r1]) rfl ?_
      rw [HR.out]
      refine ⟨⟨_, _, rfl, fun q => ⟨_, _, _, rfl, l31, l32, ?_, ?_, rfl, Nat.le_refl _, by omega⟩, ⟨_, _, _, rfl⟩, ⟨_, _, _, rfl⟩⟩, B9.out⟩
      · exact ((HG7.out q).kpx (t := 86) (fun b ty hb ht => OTH.out b fun e => (hb.ne (e ▸ BK.out) ht) rfl) (by decide) (by decide)).k
      · rw [stN_len ST2.out, List.length_set]; exact DN.out
end Go.Proofs.YteiohgiecpibhaaGreat
set_option linter.unusedVariables false
set_option linter.unusedSimpArgs false
set_option maxRecDepth 100000
set_option maxHeartbeats 4000000
namespace Go.Proofs.YteiohgiecpibhaaGreat
open Go.RowKit Fdm

theorem info30 : (Tryz.prog.info? 30).map (fun i => (i.zero, i.size, i.bytes)) = some (some (.slice none 0 0), 1, 24) := by kernel_rfl
/-- Lists that were found. -/
def FoO (w : World) (base : Nat) (v : Value) (F : List (List Int)) : Prop := ∃ us : List Value, OwP (fun _ => True) w base 30 1 v F.length us ∧ us.length = F.length ∧ ∀ i, i < F.length → ∃ u, us[i]? = some u ∧ InV w (F.getD i []) u
theorem FoO.nil (w : World) (base : Nat) : FoO w base (.slice none 0 0) [] := ⟨[], OwP.nil _ _ _ _ _, rfl, fun i hi => absurd hi (Nat.not_lt_zero _)⟩
theorem FoO.lt {w : World} {base : Nat} {v : Value} {F : List (List Int)} (h : FoO w base v F) {g : Nat} (hg : v.ownBlock = some g) : base ≤ g ∧ g < w.heap.size := by obtain ⟨us, o, _⟩ := h; exact o.own.lt g hg
theorem FoO.below {w w' : World} {base : Nat} {v : Value} {F : List (List Int)} (h : FoO w base v F) (hb : Below w.heap.size w w') : FoO w' base v F := by
  obtain ⟨us, o, l, k⟩ := h
  exact ⟨us, o.below hb, l, fun i hi => by obtain ⟨u, p, q⟩ := k i hi; exact ⟨u, p, q.below hb⟩⟩
theorem FoO.sh {w : World} {base : Nat} {v : Value} {F : List (List Int)} (h : FoO w base v F) : ∃ a c, v = .slice a F.length c ∧ F.length ≤ c ∧ c ≤ 9223372036854775807 := by
  obtain ⟨us, o, l, k⟩ := h
  rcases o.own.2 with ⟨rfl, h0⟩ | ⟨g, cap, cur, rfl, hb, hg, hnc, hcm, hcs, htake⟩
  · exact ⟨none, 0, by rw [h0], by omega, by omega⟩
  · exact ⟨_, _, rfl, hnc, by unfold maxLen at hcm; omega⟩
/-- One more. -/
theorem wpList_pushF {ops : Array Oper} {rest : List Oper} {o : Oper} {a : Act} {Q : Exit → Act → World → Prop} {w : World} (hgd : o.guard = none) (s x : Operand)
    (ho : o.op = .call { callee := .builtin .append, args := #[s, x], argTypes := #[31, 31] })
    (n : Nat) (w1 : World) (v : Value) (F : List (List Int)) (l : List Int) (u : Value) (hw : w = w1.alloc (.cells #[u] 30)) (hs : a.eval s = v) (hx : a.eval x = .slice (some ⟨w1.heap.size, 0, none⟩) 1 1)
    (hO : FoO w1 n v F) (hu : InV w1 l u) (hn : n ≤ w1.heap.size) (hl : F.length ≤ 1000000)
    (h : ∀ v' w', FoO w' n v' (F ++ [l]) → Below n w1 w' → Psh w1 w' v v' → wpList Tryz.prog ops Q rest (a.put o.dst v') w') : wpList Tryz.prog ops Q (o :: rest) a w := by
  subst hw
  obtain ⟨i0, hi0, hz0, hz1, hz2⟩ := info_parts info30
  have bn := below_new w1 (.cells #[u] 30)
  obtain ⟨us, op, ul, uk⟩ := hO.below bn
  have B1 : Below n w1 (w1.alloc (.cells #[u] 30)) := bn.mono hn
  obtain ⟨ua, uc, rfl, _⟩ := hu.ex
  refine wpList_append_op hgd s x 31 ho n 30 i0 _ 1 24 Tryz.underlying31 hi0 hz0 hz1 hz2 rfl (by omega) (fun _ _ => trivial) v F.length us hs op ⟨w1.heap.size, 0, none⟩ 1 1 [.slice ua l.length uc] hx rfl ?_ ?_ (fun _ _ => trivial) (by unfold maxLen; omega) (by omega) (Nat.le_trans hn B1.size) ?_
  · intro j z hz
    have hh := heap_alloc_new w1 (.cells #[.slice ua l.length uc] 30)
    rw [add_at, Nat.zero_add, cell_of_row _ _ j _ _ _ hh]
    simpa using hz
  · intro z hz
    simp at hz
    subst hz; rfl
  · intro v' w' h1 h2 h3
    have ps : Psh w1 w' v v' := ⟨fun b hb hn => (h2.block b (by simp; omega) (fun e => hn e.symm)).trans (bn.block b hb), fun g hg => by
      rcases h3 g hg with q | q
      · exact .inl q
      · exact .inr (by simp at q; omega), by have := h2.size; simp at this; omega⟩
    have kx : KpX 30 (w1.alloc (.cells #[.slice ua l.length uc] 30)) w' := fun b ty hb ht => h2.block b hb.lt fun e => (hb.ne (op.blk e.symm) ht) rfl
    refine h v' w' ⟨us ++ [.slice ua l.length uc], by rw [List.length_append]; exact h1, by simp [ul], fun i hi => ?_⟩ (below_own B1 op.own (Nat.le_trans hn B1.size) h2) ps
    rw [List.length_append, List.length_singleton] at hi
    by_cases e : i < F.length
    · obtain ⟨z, p, q⟩ := uk i e
      refine ⟨z, by rw [List.getElem?_append_left (by omega)]; exact p, ?_⟩
      have : (F ++ [l]).getD i [] = F.getD i [] := by rw [List.getD_eq_getElem?_getD, List.getD_eq_getElem?_getD, List.getElem?_append_left e]
      rw [this]; exact q.kpx kx (by decide)
    · obtain rfl : i = F.length := by omega
      refine ⟨.slice ua l.length uc, by rw [List.getElem?_append_right (by omega), ul, Nat.sub_self]; rfl, ?_⟩
      have : (F ++ [l]).getD F.length [] = l := by rw [List.getD_eq_getElem?_getD, List.getElem?_append_right (Nat.le_refl _), Nat.sub_self]; rfl
      rw [this]; exact (hu.below bn).kpx kx (by decide)
/-- A search in memory. -/
structure SeaB (w : World) (base gr : Nat) (vs vf : Value) (most : Nat) (s : Sea) : Prop where
  row : w.heap[gr]? = some (.cells #[vs, .int .i64 0, .int .i64 0, .int .i64 (most : Int), .int .i64 (s.fuel : Int), vf, .bool s.out] 94 (0, 0))
  fo : FoO w base vf s.found
/-- What a search's calls keep. -/
structure SeaFr (gr : Nat) (vf : Value) (w w' : World) : Prop where
  os : w'.os = w.os
  tape : w'.tape = w.tape
  output : w'.output = w.output
  size : w.heap.size ≤ w'.heap.size
  block : ∀ b, b < w.heap.size → b ≠ gr → vf.ownBlock ≠ some b → w'.heap[b]? = w.heap[b]?
def Loc (w : World) (vf vf' : Value) : Prop := ∀ g, vf'.ownBlock = some g → vf.ownBlock = some g ∨ w.heap.size ≤ g
theorem SeaFr.refl (gr : Nat) (vf : Value) (w : World) : SeaFr gr vf w w := ⟨rfl, rfl, rfl, Nat.le_refl _, fun _ _ _ _ => rfl⟩
theorem SeaFr.of_below {gr : Nat} {vf : Value} {w w' : World} (h : Below w.heap.size w w') : SeaFr gr vf w w' := ⟨h.os, h.tape, h.output, h.size, fun b hb _ _ => h.block b hb⟩
theorem SeaFr.trans {gr : Nat} {vf vf' : Value} {a b c : World} (h : SeaFr gr vf a b) (l : Loc a vf vf') (k : SeaFr gr vf' b c) : SeaFr gr vf a c :=
  ⟨k.os.trans h.os, k.tape.trans h.tape, k.output.trans h.output, Nat.le_trans h.size k.size, fun x hx h1 h2 => (k.block x (Nat.lt_of_lt_of_le hx h.size) h1 fun e => by
    rcases l x e with q | q
    · exact h2 q
    · omega).trans (h.block x hx h1 h2)⟩
theorem SeaFr.below {gr n : Nat} {vf : Value} {w0 w w' : World} (h : SeaFr gr vf w w') (hg : n ≤ gr) (hv : ∀ g, vf.ownBlock = some g → n ≤ g) (hn : n ≤ w.heap.size) (B : Below n w0 w) : Below n w0 w' :=
  ⟨h.os.trans B.os, h.tape.trans B.tape, h.output.trans B.output, Nat.le_trans B.size h.size, fun b hb => (h.block b (Nat.lt_of_lt_of_le hb hn) (by omega) fun e => by have := hv b e; omega).trans (B.block b hb)⟩
theorem Loc.refl (w : World) (vf : Value) : Loc w vf vf := fun _ h => .inl h
theorem Loc.trans {a b : World} {x y z : Value} (h : Loc a x y) (k : Loc b y z) (hs : a.heap.size ≤ b.heap.size) : Loc a x z := fun g e => by
  rcases k g e with q | q
  · exact h g q
  · exact .inr (by omega)
theorem seven {w : World} {g : Nat} {c0 c1 c2 c3 c4 c5 c6 : Value} {t : Nat} (h : w.heap[g]? = some (.cells #[c0, c1, c2, c3, c4, c5, c6] t (0, 0))) (i : Nat) : w.frozen? ⟨g, i, none⟩ = false := by simp [World.frozen?, h]
theorem set7_4 {w : World} {g : Nat} {c0 c1 c2 c3 c4 c5 c6 x : Value} {t : Nat} (h : w.heap[g]? = some (.cells #[c0, c1, c2, c3, c4, c5, c6] t (0, 0))) : (w.setCell ⟨g, 4, none⟩ x).heap[g]? = some (.cells #[c0, c1, c2, c3, x, c5, c6] t (0, 0)) := by
  simp [World.setCell, Array.getElem?_modify, h]
theorem set7_5 {w : World} {g : Nat} {c0 c1 c2 c3 c4 c5 c6 x : Value} {t : Nat} (h : w.heap[g]? = some (.cells #[c0, c1, c2, c3, c4, c5, c6] t (0, 0))) : (w.setCell ⟨g, 5, none⟩ x).heap[g]? = some (.cells #[c0, c1, c2, c3, c4, x, c6] t (0, 0)) := by
  simp [World.setCell, Array.getElem?_modify, h]
theorem set7_6 {w : World} {g : Nat} {c0 c1 c2 c3 c4 c5 c6 x : Value} {t : Nat} (h : w.heap[g]? = some (.cells #[c0, c1, c2, c3, c4, c5, c6] t (0, 0))) : (w.setCell ⟨g, 6, none⟩ x).heap[g]? = some (.cells #[c0, c1, c2, c3, c4, c5, x] t (0, 0)) := by
  simp [World.setCell, Array.getElem?_modify, h]
theorem But.sea {gr : Nat} {vf : Value} {w w' : World} (h : But gr w w') : SeaFr gr vf w w' := ⟨h.os, h.tape, h.output, h.size, fun b hb hg _ => h.block b hb hg⟩
theorem FoO.but {gr base : Nat} {vf : Value} {w w' : World} {F : List (List Int)} (h : FoO w base vf F) (k : But gr w w') (hg : Blk w gr 94) : FoO w' base vf F := by
  obtain ⟨us, o, l, q⟩ := h
  refine ⟨us, o.kept k.grown ?_, l, fun i hi => by obtain ⟨u, p, r⟩ := q i hi; exact ⟨u, p, r.kpx (k.kpx hg) (by decide)⟩⟩
  by_cases e : vf.ownBlock = none
  · exact .inl e
  · exact .inr fun e2 => ((o.blk e2).ne hg (by decide)) rfl
def SpPost (base gr : Nat) (vs vf : Value) (most : Nat) (s : Sea) (w : World) (e : Ending) (w' : World) : Prop := e = .returned (.bool s.step.1) ∧ SeaB w' base gr vs vf most s.step.2 ∧ But gr w w'
theorem step_any {w : World} {base gr most : Nat} {vs vf : Value} {s : Sea} (h : SeaB w base gr vs vf most s) (hf : s.fuel ≤ 1000000) : Calls Tryz.prog 96 #[.pointer (some ⟨gr, 0, none⟩)] w (SpPost base gr vs vf most s w) := by
  obtain ⟨R, hRr⟩ : ∃ R : Ending → World → Prop, R = SpPost base gr vs vf most s w := ⟨_, rfl⟩
  rw [← hRr]
  have HR := Lib.hid hRr; have H := Lib.hid h
  obtain ⟨p0, p1, p2, p3, p4, p5, p6⟩ := three_cells7 h.row
  have fz4 := seven h.row 4; have fz6 := seven h.row 6
  clear hRr h p0 p1 p2 p3 p5
  by_cases f0 : s.fuel = 0
  · have E : Hid (s.step = (false, { s with out := true })) := by show _ = _; unfold Sea.step; rw [if_pos f0]
    have ff : ((s.fuel : Int) == 0) = true := by simp [f0]
    obtain ⟨W9, hW9⟩ : ∃ W9, w.setCell ⟨gr, 6, none⟩ (.bool true) = W9 := ⟨_, rfl⟩
    have B9 : Hid (But gr w W9) := by show But _ _ _; rw [← hW9]; exact But.setCell _ _ _ _
    have S9 : Hid (SeaB W9 base gr vs vf most { s with out := true }) := ⟨by rw [← hW9]; exact set7_6 H.out.row, H.out.fo.but B9.out ⟨_, H.out.row⟩⟩
    clear f0
    go_enter Tryz.func96, Tryz.ntmps96
    go_wp2_with fail
    rw [HR.out]
    exact ⟨by rw [E.out]; rfl, by rw [E.out]; exact S9.out, B9.out⟩
  · have E : Hid (s.step = (true, { s with fuel := s.fuel - 1 })) := by show _ = _; unfold Sea.step; rw [if_neg f0]
    have ff : ((s.fuel : Int) == 0) = false := by simp; exact f0
    have fi : (s.fuel : Int) - 1 = ((s.fuel - 1 : Nat) : Int) := by omega
    have fp : (0 : Int) < (s.fuel : Int) := by omega
    obtain ⟨W9, hW9⟩ : ∃ W9, w.setCell ⟨gr, 4, none⟩ (.int .i64 ((s.fuel - 1 : Nat) : Int)) = W9 := ⟨_, rfl⟩
    have B9 : Hid (But gr w W9) := by show But _ _ _; rw [← hW9]; exact But.setCell _ _ _ _
    have S9 : Hid (SeaB W9 base gr vs vf most { s with fuel := s.fuel - 1 }) := ⟨by rw [← hW9]; exact set7_4 H.out.row, H.out.fo.but B9.out ⟨_, H.out.row⟩⟩
    clear f0
    go_enter Tryz.func96, Tryz.ntmps96
    go_wp2_with fail
    rw [HR.out]
    exact ⟨by rw [E.out]; rfl, by rw [E.out]; exact S9.out, B9.out⟩
end Go.Proofs.YteiohgiecpibhaaGreat
