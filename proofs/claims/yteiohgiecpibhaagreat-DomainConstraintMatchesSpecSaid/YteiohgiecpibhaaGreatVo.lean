/- What a constraint as handed in holds; the reference's number of coefficients, and whether its members are those of its kind. -/
import Derived.Test.YteiohgiecpibhaaGreatMW
set_option linter.unusedVariables false
set_option linter.unusedSimpArgs false
set_option maxRecDepth 100000
set_option maxHeartbeats 4000000
namespace Go.Proofs.YteiohgiecpibhaaGreat
open Go.RowKit Fdm

/-- Tuples that are read alone. -/
def TuA (w : World) (T : List (List Int)) (a : Option Addr) : Prop := T ≠ [] → ∃ g o, a = some ⟨g, o, none⟩ ∧ ∀ i, i < T.length → ∃ ai ci, w.cell? ⟨g, o + i, none⟩ = some (.slice ai (T.getD i []).length ci) ∧ InA w (T.getD i []) ai ∧ (T.getD i []).length ≤ ci ∧ ci ≤ 9223372036854775807
theorem TuA.below {w w' : World} {T : List (List Int)} {a : Option Addr} (h : TuA w T a) (hb : Below w.heap.size w w') : TuA w' T a := fun hne => by
  obtain ⟨g, o, e, k⟩ := h hne
  refine ⟨g, o, e, fun i hi => ?_⟩
  obtain ⟨ai, ci, q1, q2, q3, q4⟩ := k i hi
  exact ⟨ai, ci, cell_later hb (Nat.le_refl _) q1, q2.below hb, q3, q4⟩
/-- A slice's length and room. -/
structure Rm (m n c : Nat) : Prop where
  e : m = n
  l : n ≤ c
  u : c ≤ 9223372036854775807
/-- A constraint that is read alone. -/
structure Ka (w : World) (c : Con) (a1 : Option Addr) (n1 c1 : Nat) (a2 : Option Addr) (n2 c2 : Nat) (a3 : Option Addr) (n3 c3 : Nat) (a6 : Option Addr) (n6 c6 : Nat) : Prop where
  v : InA w c.vars a1
  rv : Rm c.vars.length n1 c1
  f : InA w c.coefs a2
  rf : Rm c.coefs.length n2 c2
  d : InA w c.needs a3
  rd : Rm c.needs.length n3 c3
  t : TuA w c.tuples a6
  rt : Rm c.tuples.length n6 c6
theorem Ka.below {w w' : World} {c : Con} {a1 a2 a3 a6 : Option Addr} {n1 c1 n2 c2 n3 c3 n6 c6 : Nat} (h : Ka w c a1 n1 c1 a2 n2 c2 a3 n3 c3 a6 n6 c6) (hb : Below w.heap.size w w') : Ka w' c a1 n1 c1 a2 n2 c2 a3 n3 c3 a6 n6 c6 :=
  ⟨h.v.below hb, h.rv, h.f.below hb, h.rf, h.d.below hb, h.rd, h.t.below hb, h.rt⟩
def coF (k : Int) (n : Nat) : Int := if k = 1 ∨ k = 9 then (n : Int) else if k = 10 then (n : Int) - 1 else 0
theorem coefs93_any {k rel bd : Int} {a1 : Option Addr} {n1 c1 : Nat} {x2 x3 x6 : Value} (hk : kndF k = true) (h1 : n1 ≤ 16) (w : World) :
    Calls Tryz.prog 93 #[.agg #[.int .i64 k, .slice a1 n1 c1, x2, x3, .int .i64 rel, .int .i64 bd, x6]] w fun e w' => e = .returned (.int .i64 (coF k n1)) ∧ Below w.heap.size w w' := by
  have wr : Hid (IntKind.i64.wrap ((n1 : Int) - 1) = (n1 : Int) - 1) := Lib.hid (wrap_in (by omega) (by omega))
  rcases knd_cases hk with rfl | rfl | rfl | rfl | rfl | rfl | rfl | rfl | rfl | rfl
  all_goals
    have WR := wr.out
    clear hk h1 wr
    go_enter Tryz.func93, Tryz.ntmps93
    go_wp2_with fail
    go_ret
    exact ⟨rfl, below_new _ _⟩
def foF (k rel bd : Int) (n1 n2 n3 : Nat) (T : List (List Int)) : Bool :=
  decide ((n2 : Int) = coF k n1) && decide (n3 = if k = 9 then n1 else 0) && ((shF k).rel || decide (rel = 0)) && ((shF k).bound || decide (bd = 0)) && ((shF k).tuples == !T.isEmpty) && T.all (fun t => decide (t.length = n1))
def FoL (w : World) (T : List (List Int)) (n1 : Nat) (v4 : Value) (wr : World) : Prop := ∃ i : Nat, i ≤ T.length ∧ v4 = .int .i64 (i : Int) ∧ (∀ j, j < i → (T.getD j []).length = n1) ∧ Below w.heap.size w wr
theorem all_len {T : List (List Int)} {n : Nat} (h : ∀ j, j < T.length → (T.getD j []).length = n) : T.all (fun t => decide (t.length = n)) = true := by
  rw [List.all_eq_true]
  intro t ht
  obtain ⟨j, hj, rfl⟩ := List.getElem_of_mem ht
  have := h j hj
  rw [List.getD_eq_getElem?_getD, List.getElem?_eq_getElem hj] at this
  exact decide_eq_true this
theorem not_all_len {T : List (List Int)} {n j : Nat} (hj : j < T.length) (h : (T.getD j []).length ≠ n) : T.all (fun t => decide (t.length = n)) = false := by
  rw [List.all_eq_false]
  refine ⟨T.getD j [], ?_, by simpa using h⟩
  rw [List.getD_eq_getElem?_getD, List.getElem?_eq_getElem hj]; exact List.getElem_mem hj
theorem foF_eq {k rel bd : Int} {n1 n2 n3 : Nat} {T : List (List Int)} (e2 : (n2 : Int) = coF k n1) (e3 : n3 = if k = 9 then n1 else 0) : foF k rel bd n1 n2 n3 T = (((shF k).rel || decide (rel = 0)) && ((shF k).bound || decide (bd = 0)) && ((shF k).tuples == !T.isEmpty) && T.all (fun t => decide (t.length = n1))) := by
  simp [foF, e2, e3]
theorem nil_all {T : List (List Int)} {n : Nat} : ((false == !T.isEmpty) && T.all (fun t => decide (t.length = n))) = decide (T.length = 0) := by
  cases T <;> simp
theorem formed60_any {w : World} {c : Con} {a1 a2 a3 a6 : Option Addr} {n1 c1 n2 c2 n3 c3 n6 c6 : Nat} (h : Ka w c a1 n1 c1 a2 n2 c2 a3 n3 c3 a6 n6 c6) (hk : kndF c.kind = true) (h1 : n1 ≤ 16) :
    Calls Tryz.prog 60 #[.agg #[.int .i64 c.kind, .slice a1 n1 c1, .slice a2 n2 c2, .slice a3 n3 c3, .int .i64 c.rel, .int .i64 c.bound, .slice a6 n6 c6]] w fun e w' => e = .returned (.bool (foF c.kind c.rel c.bound n1 n2 n3 c.tuples)) ∧ Below w.heap.size w w' := by
  have TA := Lib.hid h.t; have TE := Lib.hid h.rt.e; have TL := Lib.hid h.rt.l; have TU := Lib.hid h.rt.u
  clear h
  obtain ⟨k, vs, fs, ds, rel, bd, T⟩ := c
  show Calls Tryz.prog 60 #[.agg #[.int .i64 k, .slice a1 n1 c1, .slice a2 n2 c2, .slice a3 n3 c3, .int .i64 rel, .int .i64 bd, .slice a6 n6 c6]] w fun e w' => e = .returned (.bool (foF k rel bd n1 n2 n3 T)) ∧ Below w.heap.size w w'
  have hk : kndF k = true := hk
  obtain ⟨W0, hW0⟩ : ∃ W0, w.alloc (.cells #[.int .i64 k, .slice a1 n1 c1, .slice a2 n2 c2, .slice a3 n3 c3, .int .i64 rel, .int .i64 bd, .slice a6 n6 c6] 33) = W0 := ⟨_, rfl⟩
  have B0 : Hid (Below w.heap.size w W0) := by rw [← hW0]; exact Lib.hid (below_new _ _)
  have I0 : W0.heap[w.heap.size]? = some (.cells #[.int .i64 k, .slice a1 n1 c1, .slice a2 n2 c2, .slice a3 n3 c3, .int .i64 rel, .int .i64 bd, .slice a6 n6 c6] 33 (0, 0)) := by rw [← hW0]; exact heap_alloc_new _ _
  have p0 : W0.cell? ⟨w.heap.size, 0, none⟩ = some (.int .i64 k) := by rw [cell_of_row _ _ _ _ _ _ I0]; rfl
  have p1 : W0.cell? ⟨w.heap.size, 1, none⟩ = some (.slice a1 n1 c1) := by rw [cell_of_row _ _ _ _ _ _ I0]; rfl
  have p2 : W0.cell? ⟨w.heap.size, 2, none⟩ = some (.slice a2 n2 c2) := by rw [cell_of_row _ _ _ _ _ _ I0]; rfl
  have p3 : W0.cell? ⟨w.heap.size, 3, none⟩ = some (.slice a3 n3 c3) := by rw [cell_of_row _ _ _ _ _ _ I0]; rfl
  have p4 : W0.cell? ⟨w.heap.size, 4, none⟩ = some (.int .i64 rel) := by rw [cell_of_row _ _ _ _ _ _ I0]; rfl
  have p5 : W0.cell? ⟨w.heap.size, 5, none⟩ = some (.int .i64 bd) := by rw [cell_of_row _ _ _ _ _ _ I0]; rfl
  have p6 : W0.cell? ⟨w.heap.size, 6, none⟩ = some (.slice a6 n6 c6) := by rw [cell_of_row _ _ _ _ _ _ I0]; rfl
  clear I0
  have CO := Lib.hid (fun w => coefs93_any (rel := rel) (bd := bd) (a1 := a1) (c1 := c1) (x2 := .slice a2 n2 c2) (x3 := .slice a3 n3 c3) (x6 := .slice a6 n6 c6) hk h1 w)
  by_cases e2 : (n2 : Int) = coF k n1
  · rw [← e2] at CO
    by_cases e3 : n3 = if k = 9 then n1 else 0
    · have EF := Lib.hid (foF_eq (rel := rel) (bd := bd) (T := T) e2 e3)
      by_cases k9 : k = 9
      · rw [if_pos k9] at e3
        subst e3
        subst k9
        clear hk e2 h1
        rw [EF.out]
        clear EF
        go_enter Tryz.func60, Tryz.ntmps60
        go_upto_region 4 with fail
        refine Rg.s0 12 [] fun WD DW => ?_
        refine Rg.t 0 ?_
        refine Rg.t 1 ?_
        refine Rg.t 2 ?_
        refine Rg.t 3 ?_
        refine Rg.c1 4 fun K' hK => ?_
        go_simp
        go_at_call 93
        refine (CO.out _).mono ?_
        rintro e w2 ⟨rfl, hb⟩
        have D2 := over DW hb
        refine Rg.e1 hK D2 ?_
        clear hK K'
        refine Rg.t 5 ?_
        refine Rg.t 6 ?_
        refine Rg.t 7 ?_
        refine Rg.t 8 ?_
        refine Rg.t 9 ?_
        refine Rg.t 10 ?_
        refine Rg.t 11 ?_
        refine Rg.l1 ?_
        go_simp
        replace p0 := cell_later D2 (Nat.le_refl _) p0
        replace p1 := cell_later D2 (Nat.le_refl _) p1
        replace p2 := cell_later D2 (Nat.le_refl _) p2
        replace p3 := cell_later D2 (Nat.le_refl _) p3
        replace p4 := cell_later D2 (Nat.le_refl _) p4
        replace p5 := cell_later D2 (Nat.le_refl _) p5
        replace p6 := cell_later D2 (Nat.le_refl _) p6
        by_cases r0 : rel = 0 <;> by_cases b0 : bd = 0
        all_goals
              go_wp2_with fail
              go_ret
              refine ⟨congrArg (fun b => Ending.returned (Value.bool b)) ?_, over B0.out D2⟩
              first | rfl | (simp [shF, r0, b0]; done) | (rw [← TE.out]; simp [shF, r0, b0]; done) | (rw [← TE.out]; simp [shF, r0, b0]; cases T <;> simp <;> omega)
      · rw [if_neg k9] at e3
        subst e3
        have d9 : (k == 9) = false := by simpa using k9
        clear e2 h1
        rw [EF.out]
        clear EF
        go_enter Tryz.func60, Tryz.ntmps60
        go_upto_region 4 with fail
        refine Rg.s0 12 [] fun WD DW => ?_
        refine Rg.t 0 ?_
        refine Rg.t 1 ?_
        refine Rg.t 2 ?_
        refine Rg.t 3 ?_
        refine Rg.c1 4 fun K' hK => ?_
        go_simp
        go_at_call 93
        refine (CO.out _).mono ?_
        rintro e w2 ⟨rfl, hb⟩
        have D2 := over DW hb
        refine Rg.e1 hK D2 ?_
        clear hK K'
        refine Rg.t 5 ?_
        refine Rg.t 6 ?_
        refine Rg.t 7 ?_
        refine Rg.t 8 ?_
        refine Rg.t 9 ?_
        refine Rg.t 10 ?_
        refine Rg.t 11 ?_
        refine Rg.l1 ?_
        go_simp
        replace p0 := cell_later D2 (Nat.le_refl _) p0
        replace p1 := cell_later D2 (Nat.le_refl _) p1
        replace p2 := cell_later D2 (Nat.le_refl _) p2
        replace p3 := cell_later D2 (Nat.le_refl _) p3
        replace p4 := cell_later D2 (Nat.le_refl _) p4
        replace p5 := cell_later D2 (Nat.le_refl _) p5
        replace p6 := cell_later D2 (Nat.le_refl _) p6
        clear CO hW0
        by_cases k5 : k = 5
        · subst k5
          clear hk k9 d9
          by_cases r0 : rel = 0
          · by_cases b0 : bd = 0
            · subst r0
              subst b0
              have TA2 := Lib.hid (TA.out.below (over B0.out D2))
              have B2 := Lib.hid (over B0.out D2)
              clear TA D2 B0 DW
              have M6 := Lib.hid (show n6 ≤ 9223372036854775807 from Nat.le_trans TL.out TU.out)
              go_wp2_with fail
              go_loopw [4] (fun v4 wr => FoL w2 T n1 v4 wr) (fun v4 _ => n6 - (intOf v4).toNat)
              case atStart => exact ⟨0, Nat.zero_le _, rfl, fun j hj => absurd hj (by omega), Below.refl _ _⟩
              obtain ⟨i, hi, rfl, hall, hB⟩ := hrel
              replace p0 := cell_later hB (Nat.le_refl _) p0
              replace p1 := cell_later hB (Nat.le_refl _) p1
              replace p2 := cell_later hB (Nat.le_refl _) p2
              replace p3 := cell_later hB (Nat.le_refl _) p3
              replace p4 := cell_later hB (Nat.le_refl _) p4
              replace p5 := cell_later hB (Nat.le_refl _) p5
              replace p6 := cell_later hB (Nat.le_refl _) p6
              have TA3 := Lib.hid (TA2.out.below hB)
              have B3 := Lib.hid (over B2.out hB)
              have HB := Lib.hid hB
              clear hB TA2 B2
              have HA := Lib.hid hall
              clear hall
              rw [TE.out] at hi
              have m6 := M6.out
              by_cases hlt : i < n6
              · obtain ⟨g6, o6, rfl, kk⟩ := TA3.out (by intro e; have := TE.out; rw [e] at this; simp at this; omega)
                obtain ⟨ai, ci, t0, -, -, -⟩ := kk i (by rw [TE.out]; exact hlt)
                clear kk
                obtain ⟨m, hm⟩ : ∃ m, (T.getD i []).length = m := ⟨_, rfl⟩
                rw [hm] at t0
                have HM := Lib.hid hm
                clear hm
                have wi : IntKind.i64.wrap ((i : Int) + 1) = (i : Int) + 1 := wrap_in (by omega) (by omega)
                by_cases em : m = n1
                · subst em
                  have G : Hid (∀ j, j < i + 1 → (T.getD j []).length = m) := Lib.hid (fun j hj => by
                    by_cases e : j = i
                    · subst e; exact HM.out
                    · exact HA.out j (by omega))
                  go_upto_region 15 with fail
                  refine Rg.s0 9 [] fun WE DE => ?_
                  refine Rg.t 0 ?_
                  refine Rg.t 1 ?_
                  refine Rg.t 2 ?_
                  refine Rg.t 3 ?_
                  refine Rg.t 4 ?_
                  refine Rg.t 5 ?_
                  refine Rg.t 6 ?_
                  refine Rg.t 7 ?_
                  refine Rg.t 8 ?_
                  refine Rg.l1 ?_
                  go_simp
                  go_wp2_with fail
                  go_roundw
                  case rel => exact ⟨i + 1, by rw [TE.out]; omega, by go_num, G.out, over HB.out DE⟩
                  simp [intOf]; omega
                · have dm : ((m : Int) != (n1 : Int)) = true := by simp; omega
                  have NL := Lib.hid (not_all_len (T := T) (n := n1) (j := i) (by rw [TE.out]; exact hlt) (by rw [HM.out]; exact em))
                  go_upto_region 15 with fail
                  refine Rg.s0 9 [] fun WE DE => ?_
                  refine Rg.t 0 ?_
                  refine Rg.t 1 ?_
                  refine Rg.t 2 ?_
                  refine Rg.t 3 ?_
                  refine Rg.t 4 ?_
                  refine Rg.t 5 ?_
                  refine Rg.t 6 ?_
                  refine Rg.t 7 ?_
                  refine Rg.t 8 ?_
                  refine Rg.l1 ?_
                  go_simp
                  go_wp2_with fail
                  go_ret
                  refine ⟨congrArg (fun b => Ending.returned (Value.bool b)) ?_, over B3.out DE⟩
                  rw [NL.out]; simp
              · obtain rfl : i = n6 := by omega
                have AL := Lib.hid (all_len (T := T) (n := n1) (fun j hj => HA.out j (by rw [← TE.out]; exact hj)))
                go_wp2_with fail
                go_ret
                refine ⟨congrArg (fun b => Ending.returned (Value.bool b)) ?_, B3.out⟩
                rw [AL.out, ← TE.out]; simp [shF]; cases T <;> simp <;> omega
            · go_wp2_with fail
              go_ret
              refine ⟨congrArg (fun b => Ending.returned (Value.bool b)) ?_, over B0.out D2⟩
              simp [shF, r0, b0]
          · go_wp2_with fail
            go_ret
            refine ⟨congrArg (fun b => Ending.returned (Value.bool b)) ?_, over B0.out D2⟩
            simp [shF, r0]
        · by_cases r0 : rel = 0 <;> by_cases b0 : bd = 0
          all_goals
            rcases knd_cases hk with rfl | rfl | rfl | rfl | rfl | rfl | rfl | rfl | rfl | rfl
            all_goals first | (exact absurd rfl k5) | (exact absurd rfl k9) | skip
            all_goals
              clear hk k5 k9 d9
              go_wp2_with fail
              go_ret
              refine ⟨congrArg (fun b => Ending.returned (Value.bool b)) ?_, over B0.out D2⟩
              first | rfl | (simp [shF, r0, b0]; done) | (rw [← TE.out]; simp [shF, r0, b0]; done) | (rw [← TE.out]; simp [shF, r0, b0]; cases T <;> simp <;> omega)
    · have F : foF k rel bd n1 n2 n3 T = false := by simp [foF, e3]
      rw [F]
      clear F e2 h1
      by_cases k9 : k = 9
      · rw [if_pos k9] at e3
        have z1 : (n3 : Int) ≠ (n1 : Int) := by omega
        subst k9
        clear hk e3
        go_enter Tryz.func60, Tryz.ntmps60
        go_upto_region 4 with fail
        refine Rg.s0 12 [] fun WD DW => ?_
        refine Rg.t 0 ?_
        refine Rg.t 1 ?_
        refine Rg.t 2 ?_
        refine Rg.t 3 ?_
        refine Rg.c1 4 fun K' hK => ?_
        go_simp
        go_at_call 93
        refine (CO.out _).mono ?_
        rintro e w2 ⟨rfl, hb⟩
        have D2 := over DW hb
        refine Rg.e1 hK D2 ?_
        clear hK K'
        refine Rg.t 5 ?_
        refine Rg.t 6 ?_
        refine Rg.t 7 ?_
        refine Rg.t 8 ?_
        refine Rg.t 9 ?_
        refine Rg.t 10 ?_
        refine Rg.t 11 ?_
        refine Rg.l1 ?_
        go_simp
        go_wp2_with fail
        go_ret
        exact ⟨rfl, over B0.out D2⟩
      · rw [if_neg k9] at e3
        have z1 : (n3 : Int) ≠ 0 := by omega
        have d9 : (k == 9) = false := by simpa using k9
        clear hk
        go_enter Tryz.func60, Tryz.ntmps60
        go_upto_region 4 with fail
        refine Rg.s0 12 [] fun WD DW => ?_
        refine Rg.t 0 ?_
        refine Rg.t 1 ?_
        refine Rg.t 2 ?_
        refine Rg.t 3 ?_
        refine Rg.c1 4 fun K' hK => ?_
        go_simp
        go_at_call 93
        refine (CO.out _).mono ?_
        rintro e w2 ⟨rfl, hb⟩
        have D2 := over DW hb
        refine Rg.e1 hK D2 ?_
        clear hK K'
        refine Rg.t 5 ?_
        refine Rg.t 6 ?_
        refine Rg.t 7 ?_
        refine Rg.t 8 ?_
        refine Rg.t 9 ?_
        refine Rg.t 10 ?_
        refine Rg.t 11 ?_
        refine Rg.l1 ?_
        go_simp
        go_wp2_with fail
        go_ret
        exact ⟨rfl, over B0.out D2⟩
  · have F : foF k rel bd n1 n2 n3 T = false := by simp [foF, e2]
    rw [F]
    obtain ⟨q, hq⟩ : ∃ q, coF k n1 = q := ⟨_, rfl⟩
    rw [hq] at CO e2
    have d2 : ((n2 : Int) != q) = true := by simpa using e2
    clear F h1 hq
    by_cases k9 : k = 9
    · subst k9
      clear hk
      go_enter Tryz.func60, Tryz.ntmps60
      go_upto_region 4 with fail
      refine Rg.s0 12 [] fun WD DW => ?_
      refine Rg.t 0 ?_
      refine Rg.t 1 ?_
      refine Rg.t 2 ?_
      refine Rg.t 3 ?_
      refine Rg.c1 4 fun K' hK => ?_
      go_simp
      go_at_call 93
      refine (CO.out _).mono ?_
      rintro e w2 ⟨rfl, hb⟩
      have D2 := over DW hb
      refine Rg.e1 hK D2 ?_
      clear hK K'
      refine Rg.t 5 ?_
      refine Rg.t 6 ?_
      go_simp
      refine Rg.tx 7 ?_
      refine Rg.tx 8 ?_
      refine Rg.tx 9 ?_
      refine Rg.tx 10 ?_
      refine Rg.tx 11 ?_
      refine Rg.l1 ?_
      go_simp
      go_wp2_with fail
      go_ret
      exact ⟨rfl, over B0.out D2⟩
    · have d9 : (k == 9) = false := by simpa using k9
      clear hk
      go_enter Tryz.func60, Tryz.ntmps60
      go_upto_region 4 with fail
      refine Rg.s0 12 [] fun WD DW => ?_
      refine Rg.t 0 ?_
      refine Rg.t 1 ?_
      refine Rg.t 2 ?_
      refine Rg.t 3 ?_
      refine Rg.c1 4 fun K' hK => ?_
      go_simp
      go_at_call 93
      refine (CO.out _).mono ?_
      rintro e w2 ⟨rfl, hb⟩
      have D2 := over DW hb
      refine Rg.e1 hK D2 ?_
      clear hK K'
      refine Rg.t 5 ?_
      refine Rg.t 6 ?_
      go_simp
      refine Rg.tx 7 ?_
      refine Rg.tx 8 ?_
      refine Rg.tx 9 ?_
      refine Rg.tx 10 ?_
      refine Rg.tx 11 ?_
      refine Rg.l1 ?_
      go_simp
      go_wp2_with fail
      go_ret
      exact ⟨rfl, over B0.out D2⟩
end Go.Proofs.YteiohgiecpibhaaGreat
