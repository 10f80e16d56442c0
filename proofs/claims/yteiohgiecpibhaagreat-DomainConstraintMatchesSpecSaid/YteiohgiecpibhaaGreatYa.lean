/- The numbers of a constraint in their ranges, as the reference says. -/
import Derived.Test.YteiohgiecpibhaaGreatVo
import Derived.Test.YteiohgiecpibhaaGreatMX
set_option linter.unusedVariables false
set_option linter.unusedSimpArgs false
set_option maxRecDepth 100000
set_option maxHeartbeats 4000000
namespace Go.Proofs.YteiohgiecpibhaaGreat
open Go.RowKit Fdm

def raCo (k x : Int) : Bool := wiF x (if k = 9 then 0 else -100000) 100000 && (decide (k = 9) || !decide (x = 0))
def raNe (x : Int) : Bool := wiF x 0 100000
def raRl (k r : Int) : Bool := !(shF k).rel || (decide (r = 1) || decide (r = 3) || decide (r = 4))
def raB (k b : Int) : Bool := if k = 7 then wiF b 0 1 else if k = 2 ∨ k = 8 then wiF b (-16384) 16384 else if k = 9 then wiF b 0 1099511627776 else wiF b (-1099511627776) 1099511627776
/-- All numbers of a constraint that is formed are in their ranges. -/
def raF (k rel bd : Int) (F D : List Int) (T : List (List Int)) : Bool := raRl k rel && F.all (raCo k) && D.all raNe && T.all (fun t => !t.any ouF) && raB k bd
theorem all_upto {α : Type} {l : List α} {d : α} {p : α → Bool} (h : ∀ j, j < l.length → p (l.getD j d) = true) : l.all p = true := by
  rw [List.all_eq_true]
  intro t ht
  obtain ⟨j, hj, rfl⟩ := List.getElem_of_mem ht
  have := h j hj
  rwa [List.getD_eq_getElem?_getD, List.getElem?_eq_getElem hj] at this
theorem all_off {α : Type} {l : List α} {d : α} {p : α → Bool} {j : Nat} (hj : j < l.length) (h : p (l.getD j d) = false) : l.all p = false := by
  rw [List.all_eq_false]
  refine ⟨l.getD j d, ?_, by rw [h]; exact Bool.false_ne_true⟩
  rw [List.getD_eq_getElem?_getD, List.getElem?_eq_getElem hj]; exact List.getElem_mem hj
theorem any_on {α : Type} {l : List α} {d : α} {p : α → Bool} {j : Nat} (hj : j < l.length) (h : p (l.getD j d) = true) : l.any p = true :=
  List.any_eq_true.2 ⟨l.getD j d, by rw [List.getD_eq_getElem?_getD, List.getElem?_eq_getElem hj]; exact List.getElem_mem hj, h⟩
theorem any_none {α : Type} {l : List α} {d : α} {p : α → Bool} (h : ∀ j, j < l.length → p (l.getD j d) = false) : l.any p = false := by
  rw [List.any_eq_false]
  intro t ht
  obtain ⟨j, hj, rfl⟩ := List.getElem_of_mem ht
  have := h j hj
  rw [List.getD_eq_getElem?_getD, List.getElem?_eq_getElem hj] at this
  simpa using this
def RaL {α : Type} (p : α → Bool) (d : α) (w : World) (l : List α) (v : Value) (wr : World) : Prop := ∃ i : Nat, i ≤ l.length ∧ v = .int .i64 (i : Int) ∧ (∀ j, j < i → p (l.getD j d) = true) ∧ w = wr
theorem upto_succ {α : Type} {l : List α} {d : α} {p : α → Bool} {i : Nat} (h : ∀ j, j < i → p (l.getD j d) = true) (e : p (l.getD i d) = true) : ∀ j, j < i + 1 → p (l.getD j d) = true := fun j hj => by
  by_cases q : j = i
  · subst q; exact e
  · exact h j (by omega)
theorem fo_facts {k rel bd : Int} {n1 n2 n3 : Nat} {T : List (List Int)} (h : foF k rel bd n1 n2 n3 T = true) :
    (n2 : Int) = coF k n1 ∧ n3 = (if k = 9 then n1 else 0) ∧ (shF k).tuples = !T.isEmpty ∧ T.all (fun t => decide (t.length = n1)) = true := by
  simp only [foF, Bool.and_eq_true, decide_eq_true_eq, beq_iff_eq] at h
  obtain ⟨⟨⟨⟨⟨h1, h2⟩, -⟩, -⟩, h3⟩, h4⟩ := h
  exact ⟨h1, h2, h3, h4⟩
theorem no_rel {k : Int} (hk : kndF k = true) (h1 : k ≠ 1) (h2 : k ≠ 10) : (shF k).rel = false := by
  rcases knd_cases hk with rfl | rfl | rfl | rfl | rfl | rfl | rfl | rfl | rfl | rfl
  all_goals first | rfl | exact absurd rfl h1 | exact absurd rfl h2
theorem no_tup {k : Int} {T : List (List Int)} (h : (shF k).tuples = !T.isEmpty) (hs : (shF k).tuples = false) : T = [] := by
  rw [hs] at h; cases T with
  | nil => rfl
  | cons a b => cases h
theorem no_co {k : Int} (n : Nat) (h1 : k ≠ 1) (h9 : k ≠ 9) (h10 : k ≠ 10) : coF k n = 0 := by simp [coF, h1, h9, h10]
theorem ranged61_any {w : World} {c : Con} {a1 a2 a3 a6 : Option Addr} {n1 c1 n2 c2 n3 c3 n6 c6 : Nat} (h : Ka w c a1 n1 c1 a2 n2 c2 a3 n3 c3 a6 n6 c6) (hk : kndF c.kind = true) (hf : foF c.kind c.rel c.bound n1 n2 n3 c.tuples = true) :
    Calls Tryz.prog 61 #[.agg #[.int .i64 c.kind, .slice a1 n1 c1, .slice a2 n2 c2, .slice a3 n3 c3, .int .i64 c.rel, .int .i64 c.bound, .slice a6 n6 c6]] w fun e w' => e = .returned (.bool (raF c.kind c.rel c.bound c.coefs c.needs c.tuples)) ∧ Below w.heap.size w w' := by
  have h' := h
  obtain ⟨k, vs, F, D, rel, bd, T⟩ := c
  show Calls Tryz.prog 61 #[.agg #[.int .i64 k, .slice a1 n1 c1, .slice a2 n2 c2, .slice a3 n3 c3, .int .i64 rel, .int .i64 bd, .slice a6 n6 c6]] w fun e w' => e = .returned (.bool (raF k rel bd F D T)) ∧ Below w.heap.size w w'
  replace hk : kndF k = true := hk
  replace hf : foF k rel bd n1 n2 n3 T = true := hf
  obtain ⟨W0, hW0⟩ : ∃ W0, w.alloc (.cells #[.int .i64 k, .slice a1 n1 c1, .slice a2 n2 c2, .slice a3 n3 c3, .int .i64 rel, .int .i64 bd, .slice a6 n6 c6] 33) = W0 := ⟨_, rfl⟩
  have B0 : Hid (Below w.heap.size w W0) := by rw [← hW0]; exact Lib.hid (below_new _ _)
  have I0 : W0.heap[w.heap.size]? = some (.cells #[.int .i64 k, .slice a1 n1 c1, .slice a2 n2 c2, .slice a3 n3 c3, .int .i64 rel, .int .i64 bd, .slice a6 n6 c6] 33 (0, 0)) := by rw [← hW0]; exact heap_alloc_new _ _
  have p0 : W0.cell? ⟨w.heap.size, 0, none⟩ = some (.int .i64 k) := by rw [cell_of_row _ _ _ _ _ _ I0]; rfl
  have p1 : W0.cell? ⟨w.heap.size, 1, none⟩ = some (.slice a1 n1 c1) := by rw [cell_of_row _ _ _ _ _ _ I0]; rfl
  have p2 : W0.cell? ⟨w.heap.size, 2, none⟩ = some (.slice a2 n2 c2) := by rw [cell_of_row _ _ _ _ _ _ I0]; rfl
  have p3 : W0.cell? ⟨w.heap.size, 3, none⟩ = some (.slice a3 n3 c3) := by rw [cell_of_row _ _ _ _ _ _ I0]; rfl
  have p4 : W0.cell? ⟨w.heap.size, 4, none⟩ = some (.int .i64 rel) := by rw [cell_of_row _ _ _ _ _ _ I0]; rfl
  have p5 : W0.cell? ⟨w.heap.size, 5, none⟩ = some (.int .i64 bd) := by rw [cell_of_row _ _ _ _ _ _ I0]; rfl
  have p6 : W0.cell? ⟨w.heap.size, 6, none⟩ = some (.slice a6 n6 c6) := by rw [cell_of_row _ _ _ _ _ _ I0]; rfl
  clear I0
  have HH := h'.below B0.out
  have FA : Hid (InA W0 F a2) := Lib.hid HH.f
  have DA : Hid (InA W0 D a3) := Lib.hid HH.d
  have TA : Hid (TuA W0 T a6) := Lib.hid HH.t
  have FE : Hid (F.length = n2) := Lib.hid h'.rf.e
  have DE : Hid (D.length = n3) := Lib.hid h'.rd.e
  have TE : Hid (T.length = n6) := Lib.hid h'.rt.e
  have F2 := Lib.hid h'.rf.l; have F3 := Lib.hid h'.rf.u
  have D2 := Lib.hid h'.rd.l; have D3 := Lib.hid h'.rd.u
  have T2 := Lib.hid h'.rt.l; have T3 := Lib.hid h'.rt.u
  clear h h' HH
  obtain ⟨f1, f2, f3, f4⟩ := fo_facts hf
  clear hf
  have W53 := Lib.hid (within53_any)
  by_cases k9 : k = 9
  · subst k9
    obtain rfl := no_tup f3 rfl
    rw [if_pos rfl] at f2
    have f1' : n2 = n1 := by have := f1; simp [coF] at this; omega
    clear f1
    subst f1'
    subst f2
    have z6 : n6 = 0 := TE.out.symm
    subst z6
    clear hk f3 f4
    go_enter Tryz.func61, Tryz.ntmps61
    go_wp2_with fail
    go_loopw [3] (fun v wr => RaL (raCo 9) 0 W0 F v wr) (fun v _ => n3 - (intOf v).toNat)
    case atStart => exact ⟨0, Nat.zero_le _, rfl, fun j hj => absurd hj (by omega), rfl⟩
    obtain ⟨i, hi, rfl, hall, rfl⟩ := hrel
    have HA_F := Lib.hid hall
    clear hall
    rw [FE.out] at hi
    by_cases hlt : i < n3
    · obtain ⟨g2, o2, rfl, kk⟩ := FA.out (by intro e; have := FE.out; rw [e] at this; simp at this; omega)
      have t0 := kk i (by rw [FE.out]; exact hlt)
      clear kk
      obtain ⟨x, hx⟩ : ∃ x, F.getD i 0 = x := ⟨_, rfl⟩
      rw [hx] at t0
      have HX := Lib.hid hx
      clear hx
      have wi : IntKind.i64.wrap ((i : Int) + 1) = (i : Int) + 1 := wrap_in (by omega) (by have := F2.out; have := F3.out; omega)
      have C := Lib.hid (fun w => within53_any x 0 100000 w)
      have PE : Hid (raCo 9 x = (wiF x (if 9 = 9 then 0 else -100000) 100000 && (decide (9 = 9) || !decide (x = 0)))) := Lib.hid rfl
      obtain ⟨b, hb⟩ : ∃ b, wiF x 0 100000 = b := ⟨_, rfl⟩
      rw [hb] at C
      cases b
      · have PX : raCo 9 x = false := by rw [PE.out]; simp [hb]
        have NL := Lib.hid (all_off (l := F) (d := 0) (p := raCo 9) (j := i) (by rw [FE.out]; exact hlt) (by rw [HX.out]; exact PX))
        clear PX
        go_wp2_with (go_at_call 53; refine (C.out _).mono ?_; rintro e w9 ⟨rfl, hw⟩; have hw := hw.symm; subst hw)
        go_ret
        refine ⟨congrArg (fun b => Ending.returned (Value.bool b)) ?_, B0.out⟩
        simp [raF, NL.out]
      · have PX : raCo 9 x = true := by rw [PE.out]; simpa using hb
        by_cases x0 : x = 0
        · subst x0
          have G := Lib.hid (upto_succ HA_F.out (by rw [HX.out]; exact PX))
          clear PX
          go_wp2_with (go_at_call 53; refine (C.out _).mono ?_; rintro e w9 ⟨rfl, hw⟩; have hw := hw.symm; subst hw)
          go_roundw
          case rel => exact ⟨i + 1, by rw [FE.out]; omega, by go_num, G.out, rfl⟩
          simp [intOf]; omega
        · have dx : (x == 0) = false := by simpa using x0
          have G := Lib.hid (upto_succ HA_F.out (by rw [HX.out]; exact PX))
          clear PX
          go_wp2_with (go_at_call 53; refine (C.out _).mono ?_; rintro e w9 ⟨rfl, hw⟩; have hw := hw.symm; subst hw)
          go_roundw
          case rel => exact ⟨i + 1, by rw [FE.out]; omega, by go_num, G.out, rfl⟩
          simp [intOf]; omega
    · obtain rfl : n3 = i := by omega
      have AL_F := Lib.hid (all_upto (l := F) (d := 0) (p := raCo 9) (fun j hj => HA_F.out j (by rw [← FE.out]; exact hj)))
      go_wp2_with fail
      go_loopw [5] (fun v wr => RaL (raNe) 0 W0 D v wr) (fun v _ => n3 - (intOf v).toNat)
      case atStart => exact ⟨0, Nat.zero_le _, rfl, fun j hj => absurd hj (by omega), rfl⟩
      obtain ⟨i, hi, rfl, hall, rfl⟩ := hrel
      have HA_D := Lib.hid hall
      clear hall
      rw [DE.out] at hi
      by_cases hlt : i < n3
      · obtain ⟨g2, o2, rfl, kk⟩ := DA.out (by intro e; have := DE.out; rw [e] at this; simp at this; omega)
        have t0 := kk i (by rw [DE.out]; exact hlt)
        clear kk
        obtain ⟨x, hx⟩ : ∃ x, D.getD i 0 = x := ⟨_, rfl⟩
        rw [hx] at t0
        have HX := Lib.hid hx
        clear hx
        have wi : IntKind.i64.wrap ((i : Int) + 1) = (i : Int) + 1 := wrap_in (by omega) (by have := D2.out; have := D3.out; omega)
        have C := Lib.hid (fun w => within53_any x 0 100000 w)
        have PE : Hid (raNe x = (wiF x 0 100000)) := Lib.hid rfl
        obtain ⟨b, hb⟩ : ∃ b, wiF x 0 100000 = b := ⟨_, rfl⟩
        rw [hb] at C
        cases b
        · have PX : raNe x = false := by rw [PE.out]; simp [hb]
          have NL := Lib.hid (all_off (l := D) (d := 0) (p := raNe) (j := i) (by rw [DE.out]; exact hlt) (by rw [HX.out]; exact PX))
          clear PX
          go_wp2_with (go_at_call 53; refine (C.out _).mono ?_; rintro e w9 ⟨rfl, hw⟩; have hw := hw.symm; subst hw)
          go_ret
          refine ⟨congrArg (fun b => Ending.returned (Value.bool b)) ?_, B0.out⟩
          simp [raF, NL.out]
        · have PX : raNe x = true := by rw [PE.out]; simp [hb]
          have G := Lib.hid (upto_succ HA_D.out (by rw [HX.out]; exact PX))
          clear PX
          go_wp2_with (go_at_call 53; refine (C.out _).mono ?_; rintro e w9 ⟨rfl, hw⟩; have hw := hw.symm; subst hw)
          go_roundw
          case rel => exact ⟨i + 1, by rw [DE.out]; omega, by go_num, G.out, rfl⟩
          simp [intOf]; omega
      · obtain rfl : n3 = i := by omega
        have AL_D := Lib.hid (all_upto (l := D) (d := 0) (p := raNe) (fun j hj => HA_D.out j (by rw [← DE.out]; exact hj)))
        go_wp2_with fail
        refine wp_loop_rounds 1 ?_
        rw [rounds_succ]
        go_wp2_with (go_at_call 53; refine (W53.out _ _ _ _).mono ?_; rintro e w9 ⟨rfl, hw⟩; have hw := hw.symm; subst hw)
        go_ret
        refine ⟨congrArg (fun b => Ending.returned (Value.bool b)) ?_, B0.out⟩
        simp [raF, raRl, raB, shF, AL_F.out, AL_D.out]
  by_cases k1 : k = 1 ∨ k = 10
  · rw [if_neg k9] at f2
    subst f2
    have z3 : D = [] := List.eq_nil_of_length_eq_zero DE.out
    subst z3
    have e1 : T = [] := by rcases k1 with rfl | rfl <;> exact no_tup f3 rfl
    subst e1
    have z6 : n6 = 0 := TE.out.symm
    subst z6
    clear f3 f4 hk k9 f1
    have hr : (rel = 1 ∨ rel = 3 ∨ rel = 4) ∨ (rel ≠ 1 ∧ rel ≠ 3 ∧ rel ≠ 4) := by omega
    rcases hr with hr | ⟨r1, r3, r4⟩
    · rcases k1 with rfl | rfl
      · rcases hr with rfl | rfl | rfl
        all_goals
          go_enter Tryz.func61, Tryz.ntmps61
          go_wp2_with fail
          go_loopw [3] (fun v wr => RaL (raCo 1) 0 W0 F v wr) (fun v _ => n2 - (intOf v).toNat)
          case atStart => exact ⟨0, Nat.zero_le _, rfl, fun j hj => absurd hj (by omega), rfl⟩
          obtain ⟨i, hi, rfl, hall, rfl⟩ := hrel
          have HA_F := Lib.hid hall
          clear hall
          rw [FE.out] at hi
          by_cases hlt : i < n2
          · obtain ⟨g2, o2, rfl, kk⟩ := FA.out (by intro e; have := FE.out; rw [e] at this; simp at this; omega)
            have t0 := kk i (by rw [FE.out]; exact hlt)
            clear kk
            obtain ⟨x, hx⟩ : ∃ x, F.getD i 0 = x := ⟨_, rfl⟩
            rw [hx] at t0
            have HX := Lib.hid hx
            clear hx
            have wi : IntKind.i64.wrap ((i : Int) + 1) = (i : Int) + 1 := wrap_in (by omega) (by have := F2.out; have := F3.out; omega)
            have C := Lib.hid (fun w => within53_any x (-100000) 100000 w)
            have PE : Hid (raCo 1 x = (wiF x (if 1 = 9 then 0 else -100000) 100000 && (decide (1 = 9) || !decide (x = 0)))) := Lib.hid rfl
            obtain ⟨b, hb⟩ : ∃ b, wiF x (-100000) 100000 = b := ⟨_, rfl⟩
            rw [hb] at C
            cases b
            · have PX : raCo 1 x = false := by rw [PE.out]; simp [hb]
              have NL := Lib.hid (all_off (l := F) (d := 0) (p := raCo 1) (j := i) (by rw [FE.out]; exact hlt) (by rw [HX.out]; exact PX))
              clear PX
              go_wp2_with (go_at_call 53; refine (C.out _).mono ?_; rintro e w9 ⟨rfl, hw⟩; have hw := hw.symm; subst hw)
              go_ret
              refine ⟨congrArg (fun b => Ending.returned (Value.bool b)) ?_, B0.out⟩
              simp [raF, NL.out]
            · by_cases x0 : x = 0
              · subst x0
                have PX : raCo 1 0 = false := by rw [PE.out]; simp
                have NL := Lib.hid (all_off (l := F) (d := 0) (p := raCo 1) (j := i) (by rw [FE.out]; exact hlt) (by rw [HX.out]; exact PX))
                clear PX
                go_wp2_with (go_at_call 53; refine (C.out _).mono ?_; rintro e w9 ⟨rfl, hw⟩; have hw := hw.symm; subst hw)
                go_ret
                refine ⟨congrArg (fun b => Ending.returned (Value.bool b)) ?_, B0.out⟩
                simp [raF, NL.out]
              · have dx : (x == 0) = false := by simpa using x0
                have PX : raCo 1 x = true := by rw [PE.out]; simp [x0]; simpa using hb
                have G := Lib.hid (upto_succ HA_F.out (by rw [HX.out]; exact PX))
                clear PX
                go_wp2_with (go_at_call 53; refine (C.out _).mono ?_; rintro e w9 ⟨rfl, hw⟩; have hw := hw.symm; subst hw)
                go_roundw
                case rel => exact ⟨i + 1, by rw [FE.out]; omega, by go_num, G.out, rfl⟩
                simp [intOf]; omega
          · obtain rfl : n2 = i := by omega
            have AL_F := Lib.hid (all_upto (l := F) (d := 0) (p := raCo 1) (fun j hj => HA_F.out j (by rw [← FE.out]; exact hj)))
            go_wp2_with fail
            refine wp_loop_rounds 1 ?_
            rw [rounds_succ]
            go_wp2_with fail
            refine wp_loop_rounds 1 ?_
            rw [rounds_succ]
            go_wp2_with (go_at_call 53; refine (W53.out _ _ _ _).mono ?_; rintro e w9 ⟨rfl, hw⟩; have hw := hw.symm; subst hw)
            go_ret
            refine ⟨congrArg (fun b => Ending.returned (Value.bool b)) ?_, B0.out⟩
            simp [raF, raRl, raB, shF, AL_F.out]
      · rcases hr with rfl | rfl | rfl
        all_goals
          go_enter Tryz.func61, Tryz.ntmps61
          go_wp2_with fail
          go_loopw [3] (fun v wr => RaL (raCo 10) 0 W0 F v wr) (fun v _ => n2 - (intOf v).toNat)
          case atStart => exact ⟨0, Nat.zero_le _, rfl, fun j hj => absurd hj (by omega), rfl⟩
          obtain ⟨i, hi, rfl, hall, rfl⟩ := hrel
          have HA_F := Lib.hid hall
          clear hall
          rw [FE.out] at hi
          by_cases hlt : i < n2
          · obtain ⟨g2, o2, rfl, kk⟩ := FA.out (by intro e; have := FE.out; rw [e] at this; simp at this; omega)
            have t0 := kk i (by rw [FE.out]; exact hlt)
            clear kk
            obtain ⟨x, hx⟩ : ∃ x, F.getD i 0 = x := ⟨_, rfl⟩
            rw [hx] at t0
            have HX := Lib.hid hx
            clear hx
            have wi : IntKind.i64.wrap ((i : Int) + 1) = (i : Int) + 1 := wrap_in (by omega) (by have := F2.out; have := F3.out; omega)
            have C := Lib.hid (fun w => within53_any x (-100000) 100000 w)
            have PE : Hid (raCo 10 x = (wiF x (if 10 = 9 then 0 else -100000) 100000 && (decide (10 = 9) || !decide (x = 0)))) := Lib.hid rfl
            obtain ⟨b, hb⟩ : ∃ b, wiF x (-100000) 100000 = b := ⟨_, rfl⟩
            rw [hb] at C
            cases b
            · have PX : raCo 10 x = false := by rw [PE.out]; simp [hb]
              have NL := Lib.hid (all_off (l := F) (d := 0) (p := raCo 10) (j := i) (by rw [FE.out]; exact hlt) (by rw [HX.out]; exact PX))
              clear PX
              go_wp2_with (go_at_call 53; refine (C.out _).mono ?_; rintro e w9 ⟨rfl, hw⟩; have hw := hw.symm; subst hw)
              go_ret
              refine ⟨congrArg (fun b => Ending.returned (Value.bool b)) ?_, B0.out⟩
              simp [raF, NL.out]
            · by_cases x0 : x = 0
              · subst x0
                have PX : raCo 10 0 = false := by rw [PE.out]; simp
                have NL := Lib.hid (all_off (l := F) (d := 0) (p := raCo 10) (j := i) (by rw [FE.out]; exact hlt) (by rw [HX.out]; exact PX))
                clear PX
                go_wp2_with (go_at_call 53; refine (C.out _).mono ?_; rintro e w9 ⟨rfl, hw⟩; have hw := hw.symm; subst hw)
                go_ret
                refine ⟨congrArg (fun b => Ending.returned (Value.bool b)) ?_, B0.out⟩
                simp [raF, NL.out]
              · have dx : (x == 0) = false := by simpa using x0
                have PX : raCo 10 x = true := by rw [PE.out]; simp [x0]; simpa using hb
                have G := Lib.hid (upto_succ HA_F.out (by rw [HX.out]; exact PX))
                clear PX
                go_wp2_with (go_at_call 53; refine (C.out _).mono ?_; rintro e w9 ⟨rfl, hw⟩; have hw := hw.symm; subst hw)
                go_roundw
                case rel => exact ⟨i + 1, by rw [FE.out]; omega, by go_num, G.out, rfl⟩
                simp [intOf]; omega
          · obtain rfl : n2 = i := by omega
            have AL_F := Lib.hid (all_upto (l := F) (d := 0) (p := raCo 10) (fun j hj => HA_F.out j (by rw [← FE.out]; exact hj)))
            go_wp2_with fail
            refine wp_loop_rounds 1 ?_
            rw [rounds_succ]
            go_wp2_with fail
            refine wp_loop_rounds 1 ?_
            rw [rounds_succ]
            go_wp2_with (go_at_call 53; refine (W53.out _ _ _ _).mono ?_; rintro e w9 ⟨rfl, hw⟩; have hw := hw.symm; subst hw)
            go_ret
            refine ⟨congrArg (fun b => Ending.returned (Value.bool b)) ?_, B0.out⟩
            simp [raF, raRl, raB, shF, AL_F.out]
    · have q1 : (rel != 1) = true := by simpa using r1
      have q3 : (rel != 3) = true := by simpa using r3
      have q4 : (rel != 4) = true := by simpa using r4
      rcases k1 with rfl | rfl
      all_goals
        go_enter Tryz.func61, Tryz.ntmps61
        go_wp2_with fail
        go_ret
        refine ⟨congrArg (fun b => Ending.returned (Value.bool b)) ?_, B0.out⟩
        simp [raF, raRl, shF, r1, r3, r4]
  · have k1a : k ≠ 1 := fun e => k1 (Or.inl e)
    have k1b : k ≠ 10 := fun e => k1 (Or.inr e)
    rw [if_neg k9] at f2
    subst f2
    have f1' : n2 = 0 := by rw [no_co _ k1a k9 k1b] at f1; omega
    clear f1
    subst f1'
    have z3 : D = [] := List.eq_nil_of_length_eq_zero DE.out
    subst z3
    have z2 : F = [] := List.eq_nil_of_length_eq_zero FE.out
    subst z2
    have RL : Hid (raRl k rel = true) := Lib.hid (by simp [raRl, no_rel hk k1a k1b])
    clear f3 f4
    have d1 : (k == 1) = false := by simpa using k1a
    have d10 : (k == 10) = false := by simpa using k1b
    have d9 : (k == 9) = false := by simpa using k9
    clear k1
    go_enter Tryz.func61, Tryz.ntmps61
    go_wp2_with fail
    refine wp_loop_rounds 1 ?_
    rw [rounds_succ]
    go_wp2_with fail
    refine wp_loop_rounds 1 ?_
    rw [rounds_succ]
    go_wp2_with fail
    go_loopw [6] (fun v wr => RaL (fun t => !t.any ouF) [] W0 T v wr) (fun v _ => n6 - (intOf v).toNat)
    case atStart => exact ⟨0, Nat.zero_le _, rfl, fun j hj => absurd hj (by omega), rfl⟩
    obtain ⟨i, hi, rfl, hall, rfl⟩ := hrel
    have HA := Lib.hid hall
    clear hall
    rw [TE.out] at hi
    by_cases hlt : i < n6
    · obtain ⟨g6, o6, rfl, kk⟩ := TA.out (by intro e; have := TE.out; rw [e] at this; simp at this; omega)
      obtain ⟨ai, ci, t0, u1, u2, u3⟩ := kk i (by rw [TE.out]; exact hlt)
      clear kk
      obtain ⟨m, hm⟩ : ∃ m, (T.getD i []).length = m := ⟨_, rfl⟩
      rw [hm] at t0 u2
      have U1 := Lib.hid u1
      have HM := Lib.hid hm
      clear hm u1
      have wi : IntKind.i64.wrap ((i : Int) + 1) = (i : Int) + 1 := wrap_in (by omega) (by have := T2.out; have := T3.out; omega)
      go_wp2_with fail
      go_loopw [7] (fun v wr => RaL (fun x => !ouF x) 0 W0 (T.getD i []) v wr) (fun v _ => m - (intOf v).toNat)
      case atStart => exact ⟨0, Nat.zero_le _, rfl, fun j hj => absurd hj (by omega), rfl⟩
      obtain ⟨j, hj, rfl, hall, rfl⟩ := hrel
      have HB := Lib.hid hall
      clear hall
      rw [HM.out] at hj
      by_cases jlt : j < m
      · obtain ⟨g7, o7, rfl, kk⟩ := U1.out (by intro e; have := HM.out; rw [e] at this; simp at this; omega)
        have t1 := kk j (by rw [HM.out]; exact jlt)
        clear kk
        obtain ⟨x, hx⟩ : ∃ x, (T.getD i []).getD j 0 = x := ⟨_, rfl⟩
        rw [hx] at t1
        have HX := Lib.hid hx
        clear hx
        have wj : IntKind.i64.wrap ((j : Int) + 1) = (j : Int) + 1 := wrap_in (by omega) (by omega)
        have C := Lib.hid (fun w => within53_any x (-16384) 16384 w)
        have PE : Hid (ouF x = !wiF x (-16384) 16384) := Lib.hid rfl
        obtain ⟨b, hb⟩ : ∃ b, wiF x (-16384) 16384 = b := ⟨_, rfl⟩
        rw [hb] at C
        cases b
        · have PX : ouF x = true := by rw [PE.out, hb]; rfl
          have NL := Lib.hid (all_off (l := T) (d := []) (p := fun t => !t.any ouF) (j := i) (by rw [TE.out]; exact hlt) (by rw [any_on (l := T.getD i []) (d := 0) (p := ouF) (j := j) (by rw [HM.out]; exact jlt) (by rw [HX.out]; exact PX)]; rfl))
          clear PX hb PE HX HM
          go_wp2_with (go_at_call 53; refine (C.out _).mono ?_; rintro e w9 ⟨rfl, hw⟩; have hw := hw.symm; subst hw)
          go_ret
          refine ⟨congrArg (fun b => Ending.returned (Value.bool b)) ?_, B0.out⟩
          simp only [raF, NL.out, Bool.and_false, Bool.false_and]
        · have PX : (!ouF x) = true := by rw [PE.out, hb]; rfl
          have G := Lib.hid (upto_succ (l := T.getD i []) (p := fun x => !ouF x) (d := 0) HB.out (by rw [HX.out]; exact PX))
          clear PX hb PE HX
          go_wp2_with (go_at_call 53; refine (C.out _).mono ?_; rintro e w9 ⟨rfl, hw⟩; have hw := hw.symm; subst hw)
          go_roundw
          case rel => exact ⟨j + 1, by rw [HM.out]; omega, by go_num, G.out, rfl⟩
          simp [intOf]; omega
      · obtain rfl : m = j := by omega
        have G := Lib.hid (upto_succ (l := T) (p := fun t => !t.any ouF) (d := []) HA.out (by rw [any_none (l := T.getD i []) (d := 0) (p := ouF) (fun u hu => by have := HB.out u (by rw [← HM.out]; exact hu); simpa using this)]; rfl))
        go_wp2_with fail
        go_roundw
        case rel => exact ⟨i + 1, by rw [TE.out]; omega, by go_num, G.out, rfl⟩
        simp [intOf]; omega
    · obtain rfl : n6 = i := by omega
      have AL := Lib.hid (all_upto (l := T) (d := []) (p := fun t => !t.any ouF) (fun j hj => HA.out j (by rw [← TE.out]; exact hj)))
      have E : Hid (raF k rel bd [] [] T = raB k bd) := Lib.hid (by simp only [raF, RL.out, AL.out, List.all_nil, Bool.and_true, Bool.true_and])
      clear AL RL
      by_cases k7 : k = 7
      · subst k7
        go_wp2_with (go_at_call 53; refine (W53.out _ _ _ _).mono ?_; rintro e w9 ⟨rfl, hw⟩; have hw := hw.symm; subst hw)
        go_ret
        exact ⟨by rw [E.out]; rfl, B0.out⟩
      · have d7 : (k == 7) = false := by simpa using k7
        by_cases k2 : k = 2
        · subst k2
          go_wp2_with (go_at_call 53; refine (W53.out _ _ _ _).mono ?_; rintro e w9 ⟨rfl, hw⟩; have hw := hw.symm; subst hw)
          go_ret
          exact ⟨by rw [E.out]; rfl, B0.out⟩
        · have d2 : (k == 2) = false := by simpa using k2
          by_cases k8 : k = 8
          · subst k8
            go_wp2_with (go_at_call 53; refine (W53.out _ _ _ _).mono ?_; rintro e w9 ⟨rfl, hw⟩; have hw := hw.symm; subst hw)
            go_ret
            exact ⟨by rw [E.out]; rfl, B0.out⟩
          · have d8 : (k == 8) = false := by simpa using k8
            have E2 : Hid (raB k bd = wiF bd (-1099511627776) 1099511627776) := Lib.hid (by simp [raB, k7, k2, k8, k9])
            go_wp2_with (go_at_call 53; refine (W53.out _ _ _ _).mono ?_; rintro e w9 ⟨rfl, hw⟩; have hw := hw.symm; subst hw)
            go_ret
            exact ⟨by rw [E.out, E2.out]; rfl, B0.out⟩
end Go.Proofs.YteiohgiecpibhaaGreat
