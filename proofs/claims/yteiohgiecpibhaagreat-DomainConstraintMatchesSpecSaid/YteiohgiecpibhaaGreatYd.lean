/- The numbers of a constraint in their ranges, in the program. -/
import Derived.Test.YteiohgiecpibhaaGreatYa
import Derived.Test.YteiohgiecpibhaaGreatMX
set_option linter.unusedVariables false
set_option linter.unusedSimpArgs false
set_option maxRecDepth 100000
set_option maxHeartbeats 4000000
namespace Go.Proofs.YteiohgiecpibhaaGreat
open Go.RowKit Fdm

def RaQ (w : World) (T : List (List Int)) (v : Value) (wr : World) : Prop := ∃ i : Nat, i ≤ T.length ∧ v = .int .i64 (i : Int) ∧ (∀ j, j < i → (fun t : List Int => !t.any ouF) (T.getD j []) = true) ∧ Qt w wr
theorem ranges58_any {w : World} {c : Con} {a1 a2 a3 a6 : Option Addr} {n1 c1 n2 c2 n3 c3 n6 c6 : Nat} (h : Ka w c a1 n1 c1 a2 n2 c2 a3 n3 c3 a6 n6 c6) (hk : kndF c.kind = true) (hf : foF c.kind c.rel c.bound n1 n2 n3 c.tuples = true) :
    Calls Tryz.prog 58 #[.agg #[.int .i64 c.kind, .slice a1 n1 c1, .slice a2 n2 c2, .slice a3 n3 c3, .int .i64 c.rel, .int .i64 c.bound, .slice a6 n6 c6], (shF c.kind).v] w fun e w' => e = .returned (.bool (raF c.kind c.rel c.bound c.coefs c.needs c.tuples)) ∧ Below w.heap.size w w' := by
  have h' := h
  obtain ⟨k, vs, F, D, rel, bd, T⟩ := c
  show Calls Tryz.prog 58 #[.agg #[.int .i64 k, .slice a1 n1 c1, .slice a2 n2 c2, .slice a3 n3 c3, .int .i64 rel, .int .i64 bd, .slice a6 n6 c6], (shF k).v] w fun e w' => e = .returned (.bool (raF k rel bd F D T)) ∧ Below w.heap.size w w'
  replace hk : kndF k = true := hk
  replace hf : foF k rel bd n1 n2 n3 T = true := hf
  obtain ⟨f1, f2, f3, f4⟩ := fo_facts hf
  have HRE : Hid (∃ re, (shF k).rel = re) := Lib.hid ⟨_, rfl⟩
  obtain ⟨re, hre⟩ := HRE.out
  obtain ⟨S, hS⟩ : ∃ S, shF k = S := ⟨_, rfl⟩
  have hSr : S.rel = re := by rw [← hS]; exact hre
  rw [hS]
  obtain ⟨sl, sm, co, ne, re', bo, tu⟩ := S
  obtain rfl : re' = re := hSr
  clear HRE hS
  show Calls Tryz.prog 58 #[.agg #[.int .i64 k, .slice a1 n1 c1, .slice a2 n2 c2, .slice a3 n3 c3, .int .i64 rel, .int .i64 bd, .slice a6 n6 c6], .agg #[.int .i64 sl, .int .i64 sm, .bool co, .bool ne, .bool re', .bool bo, .bool tu]] w fun e w' => e = .returned (.bool (raF k rel bd F D T)) ∧ Below w.heap.size w w'
  obtain ⟨W1, hW1⟩ : ∃ W1, (w.alloc (.cells #[.int .i64 k, .slice a1 n1 c1, .slice a2 n2 c2, .slice a3 n3 c3, .int .i64 rel, .int .i64 bd, .slice a6 n6 c6] 33)).alloc (.cells #[.int .i64 sl, .int .i64 sm, .bool co, .bool ne, .bool re', .bool bo, .bool tu] 78) = W1 := ⟨_, rfl⟩
  have Z := alloc2 w (.cells #[.int .i64 k, .slice a1 n1 c1, .slice a2 n2 c2, .slice a3 n3 c3, .int .i64 rel, .int .i64 bd, .slice a6 n6 c6] 33) (.cells #[.int .i64 sl, .int .i64 sm, .bool co, .bool ne, .bool re', .bool bo, .bool tu] 78)
  rw [hW1] at Z
  obtain ⟨I0, I1, hB, -⟩ := Z
  have B1 := Lib.hid hB
  have p0 : W1.cell? ⟨w.heap.size, 0, none⟩ = some (.int .i64 k) := by rw [cell_of_row _ _ _ _ _ _ I0]; rfl
  have p1 : W1.cell? ⟨w.heap.size, 1, none⟩ = some (.slice a1 n1 c1) := by rw [cell_of_row _ _ _ _ _ _ I0]; rfl
  have p2 : W1.cell? ⟨w.heap.size, 2, none⟩ = some (.slice a2 n2 c2) := by rw [cell_of_row _ _ _ _ _ _ I0]; rfl
  have p3 : W1.cell? ⟨w.heap.size, 3, none⟩ = some (.slice a3 n3 c3) := by rw [cell_of_row _ _ _ _ _ _ I0]; rfl
  have p4 : W1.cell? ⟨w.heap.size, 4, none⟩ = some (.int .i64 rel) := by rw [cell_of_row _ _ _ _ _ _ I0]; rfl
  have p5 : W1.cell? ⟨w.heap.size, 5, none⟩ = some (.int .i64 bd) := by rw [cell_of_row _ _ _ _ _ _ I0]; rfl
  have p6 : W1.cell? ⟨w.heap.size, 6, none⟩ = some (.slice a6 n6 c6) := by rw [cell_of_row _ _ _ _ _ _ I0]; rfl
  have d4 : W1.cell? ⟨w.heap.size + 1, 4, none⟩ = some (.bool re') := by rw [cell_of_row _ _ _ _ _ _ I1]; rfl
  have HH := h'.below hB
  have FA : Hid (InA W1 F a2) := Lib.hid HH.f
  have DA : Hid (InA W1 D a3) := Lib.hid HH.d
  have TA : Hid (TuA W1 T a6) := Lib.hid HH.t
  have FE : Hid (F.length = n2) := Lib.hid h'.rf.e
  have DE : Hid (D.length = n3) := Lib.hid h'.rd.e
  have TE : Hid (T.length = n6) := Lib.hid h'.rt.e
  have F2 := Lib.hid h'.rf.l; have F3 := Lib.hid h'.rf.u
  have D2 := Lib.hid h'.rd.l; have D3 := Lib.hid h'.rd.u
  have T2 := Lib.hid h'.rt.l; have T3 := Lib.hid h'.rt.u
  clear h h' HH hf I0 I1 hB
  by_cases k9 : k = 9
  · subst k9
    obtain rfl : false = re' := hre
    obtain rfl := no_tup f3 rfl
    rw [if_pos rfl] at f2
    have f1' : n2 = n1 := by have := f1; simp [coF] at this; omega
    clear f1
    subst f1'
    subst f2
    have z6 : n6 = 0 := TE.out.symm
    subst z6
    clear hk f3 f4
    go_enter Tryz.func58, Tryz.ntmps58
    go_wp2_with fail
    go_loopw [34] (fun v wr => RaL (raCo 9) 0 W1 F v wr) (fun v _ => n3 - (intOf v).toNat)
    case atStart => exact ⟨0, Nat.zero_le _, rfl, fun j hj => absurd hj (by omega), rfl⟩
    obtain ⟨i, hi, rfl, hall, rfl⟩ := hrel
    have HA_F := Lib.hid hall
    clear hall
    rw [FE.out] at hi
    by_cases hlt : i < n3
    · obtain ⟨g2, o2, rfl, kk⟩ := FA.out (by intro e; have := FE.out; rw [e] at this; simp at this; omega)
      have t0 := kk i (by rw [FE.out]; exact hlt)
      clear kk
      obtain ⟨x, hx⟩ : ∃ x, F.getD i 0 = x := ⟨_, rfl⟩
      rw [hx] at t0
      have HX := Lib.hid hx
      clear hx
      have wi : IntKind.i64.wrap ((i : Int) + 1) = (i : Int) + 1 := wrap_in (by omega) (by have := F2.out; have := F3.out; omega)
      by_cases x1 : x < -100000
      · have dx : (x == 0) = false := by simp; omega
        have PX : raCo 9 x = false := by simp [raCo, raNe, wiF]; omega
        have NL := Lib.hid (all_off (l := F) (d := 0) (p := raCo 9) (j := i) (by rw [FE.out]; exact hlt) (by rw [HX.out]; exact PX))
        clear PX HX
        go_wp2_with fail
        go_ret
        refine ⟨congrArg (fun b => Ending.returned (Value.bool b)) ?_, B1.out⟩
        simp [raF, NL.out]
      · by_cases x2 : 100000 < x
        · have dx : (x == 0) = false := by simp; omega
          have PX : raCo 9 x = false := by simp [raCo, raNe, wiF]; omega
          have NL := Lib.hid (all_off (l := F) (d := 0) (p := raCo 9) (j := i) (by rw [FE.out]; exact hlt) (by rw [HX.out]; exact PX))
          clear PX HX
          go_wp2_with fail
          go_ret
          refine ⟨congrArg (fun b => Ending.returned (Value.bool b)) ?_, B1.out⟩
          simp [raF, NL.out]
        · by_cases x0 : x = 0
          · subst x0
            have PX : raCo 9 0 = true := by simp [raCo, raNe, wiF]
            have G := Lib.hid (upto_succ HA_F.out (by rw [HX.out]; exact PX))
            clear PX HX
            go_wp2_with fail
            go_roundw
            case rel => exact ⟨i + 1, by rw [FE.out]; omega, by go_num, G.out, rfl⟩
            simp [intOf]; omega
          · have dx : (x == 0) = false := by simpa using x0
            by_cases x3 : x < 0
            · have x3 := x3
              have PX : raCo 9 x = false := by simp [raCo, raNe, wiF]; omega
              have NL := Lib.hid (all_off (l := F) (d := 0) (p := raCo 9) (j := i) (by rw [FE.out]; exact hlt) (by rw [HX.out]; exact PX))
              clear PX HX
              go_wp2_with fail
              go_ret
              refine ⟨congrArg (fun b => Ending.returned (Value.bool b)) ?_, B1.out⟩
              simp [raF, NL.out]
            · have x3 := x3
              have PX : raCo 9 x = true := by simp [raCo, raNe, wiF]; omega
              have G := Lib.hid (upto_succ HA_F.out (by rw [HX.out]; exact PX))
              clear PX HX
              go_wp2_with fail
              go_roundw
              case rel => exact ⟨i + 1, by rw [FE.out]; omega, by go_num, G.out, rfl⟩
              simp [intOf]; omega
    · obtain rfl : n3 = i := by omega
      have AL_F := Lib.hid (all_upto (l := F) (d := 0) (p := raCo 9) (fun j hj => HA_F.out j (by rw [← FE.out]; exact hj)))
      go_wp2_with fail
      go_loopw [67] (fun v wr => RaL (raNe) 0 W1 D v wr) (fun v _ => n3 - (intOf v).toNat)
      case atStart => exact ⟨0, Nat.zero_le _, rfl, fun j hj => absurd hj (by omega), rfl⟩
      obtain ⟨i, hi, rfl, hall, rfl⟩ := hrel
      have HA_D := Lib.hid hall
      clear hall
      rw [DE.out] at hi
      by_cases hlt : i < n3
      · obtain ⟨g2, o2, rfl, kk⟩ := DA.out (by intro e; have := DE.out; rw [e] at this; simp at this; omega)
        have t0 := kk i (by rw [DE.out]; exact hlt)
        clear kk
        obtain ⟨x, hx⟩ : ∃ x, D.getD i 0 = x := ⟨_, rfl⟩
        rw [hx] at t0
        have HX := Lib.hid hx
        clear hx
        have wi : IntKind.i64.wrap ((i : Int) + 1) = (i : Int) + 1 := wrap_in (by omega) (by have := D2.out; have := D3.out; omega)
        by_cases x1 : x < 0
        · have x1 := x1
          have PX : raNe x = false := by simp [raCo, raNe, wiF]; omega
          have NL := Lib.hid (all_off (l := D) (d := 0) (p := raNe) (j := i) (by rw [DE.out]; exact hlt) (by rw [HX.out]; exact PX))
          clear PX HX
          go_wp2_with fail
          go_ret
          refine ⟨congrArg (fun b => Ending.returned (Value.bool b)) ?_, B1.out⟩
          simp [raF, NL.out]
        · by_cases x2 : 100000 < x
          · have x2 := x2
            have PX : raNe x = false := by simp [raCo, raNe, wiF]; omega
            have NL := Lib.hid (all_off (l := D) (d := 0) (p := raNe) (j := i) (by rw [DE.out]; exact hlt) (by rw [HX.out]; exact PX))
            clear PX HX
            go_wp2_with fail
            go_ret
            refine ⟨congrArg (fun b => Ending.returned (Value.bool b)) ?_, B1.out⟩
            simp [raF, NL.out]
          · have x2 := x2
            have PX : raNe x = true := by simp [raCo, raNe, wiF]; omega
            have G := Lib.hid (upto_succ HA_D.out (by rw [HX.out]; exact PX))
            clear PX HX
            go_wp2_with fail
            go_roundw
            case rel => exact ⟨i + 1, by rw [DE.out]; omega, by go_num, G.out, rfl⟩
            simp [intOf]; omega
      · obtain rfl : n3 = i := by omega
        have AL_D := Lib.hid (all_upto (l := D) (d := 0) (p := raNe) (fun j hj => HA_D.out j (by rw [← DE.out]; exact hj)))
        go_wp2_with fail
        refine wp_loop_rounds 1 ?_
        rw [rounds_succ]
        have EF : Hid (raF 9 rel bd F D [] = wiF bd 0 1099511627776) := Lib.hid (by simp [raF, raRl, raB, shF, AL_F.out, AL_D.out])
        by_cases b1 : 0 ≤ bd
        · by_cases b2 : bd ≤ 1099511627776
          · have b2 := b2
            have E9 : Hid (wiF bd 0 1099511627776 = true) := Lib.hid (by simp [wiF, b1, b2])
            go_wp2_with fail
            go_ret
            refine ⟨congrArg (fun b => Ending.returned (Value.bool b)) ?_, B1.out⟩
            rw [EF.out, E9.out] <;> first | rfl | simp [b1, b2]
          · have b2 := b2
            have E9 : Hid (wiF bd 0 1099511627776 = false) := Lib.hid (by simp [wiF, b1, b2])
            go_wp2_with fail
            go_ret
            refine ⟨congrArg (fun b => Ending.returned (Value.bool b)) ?_, B1.out⟩
            rw [EF.out, E9.out] <;> first | rfl | simp [b1, b2]
        · have b1 := b1
          have E9 : Hid (wiF bd 0 1099511627776 = false) := Lib.hid (by simp [wiF, b1])
          go_wp2_with fail
          go_ret
          refine ⟨congrArg (fun b => Ending.returned (Value.bool b)) ?_, B1.out⟩
          rw [EF.out, E9.out] <;> first | rfl | simp [b1]
  by_cases k1 : k = 1 ∨ k = 10
  · rw [if_neg k9] at f2
    subst f2
    have z3 : D = [] := List.eq_nil_of_length_eq_zero DE.out
    subst z3
    have e1 : T = [] := by rcases k1 with rfl | rfl <;> exact no_tup f3 rfl
    subst e1
    have z6 : n6 = 0 := TE.out.symm
    subst z6
    have hre' : true = re' := by rcases k1 with rfl | rfl <;> exact hre
    subst hre'
    clear f3 f4 hk k9 f1 hre
    have hr : (rel = 1 ∨ rel = 3 ∨ rel = 4) ∨ (rel ≠ 1 ∧ rel ≠ 3 ∧ rel ≠ 4) := by omega
    rcases hr with hr | ⟨r1, r3, r4⟩
    · rcases k1 with rfl | rfl
      · rcases hr with rfl | rfl | rfl
        all_goals
          go_enter Tryz.func58, Tryz.ntmps58
          go_wp2_with fail
          go_loopw [34] (fun v wr => RaL (raCo 1) 0 W1 F v wr) (fun v _ => n2 - (intOf v).toNat)
          case atStart => exact ⟨0, Nat.zero_le _, rfl, fun j hj => absurd hj (by omega), rfl⟩
          obtain ⟨i, hi, rfl, hall, rfl⟩ := hrel
          have HA_F := Lib.hid hall
          clear hall
          rw [FE.out] at hi
          by_cases hlt : i < n2
          · obtain ⟨g2, o2, rfl, kk⟩ := FA.out (by intro e; have := FE.out; rw [e] at this; simp at this; omega)
            have t0 := kk i (by rw [FE.out]; exact hlt)
            clear kk
            obtain ⟨x, hx⟩ : ∃ x, F.getD i 0 = x := ⟨_, rfl⟩
            rw [hx] at t0
            have HX := Lib.hid hx
            clear hx
            have wi : IntKind.i64.wrap ((i : Int) + 1) = (i : Int) + 1 := wrap_in (by omega) (by have := F2.out; have := F3.out; omega)
            by_cases x1 : x < -100000
            · have dx : (x == 0) = false := by simp; omega
              have PX : raCo 1 x = false := by simp [raCo, raNe, wiF]; omega
              have NL := Lib.hid (all_off (l := F) (d := 0) (p := raCo 1) (j := i) (by rw [FE.out]; exact hlt) (by rw [HX.out]; exact PX))
              clear PX HX
              go_wp2_with fail
              go_ret
              refine ⟨congrArg (fun b => Ending.returned (Value.bool b)) ?_, B1.out⟩
              simp [raF, NL.out]
            · by_cases x2 : 100000 < x
              · have dx : (x == 0) = false := by simp; omega
                have PX : raCo 1 x = false := by simp [raCo, raNe, wiF]; omega
                have NL := Lib.hid (all_off (l := F) (d := 0) (p := raCo 1) (j := i) (by rw [FE.out]; exact hlt) (by rw [HX.out]; exact PX))
                clear PX HX
                go_wp2_with fail
                go_ret
                refine ⟨congrArg (fun b => Ending.returned (Value.bool b)) ?_, B1.out⟩
                simp [raF, NL.out]
              · by_cases x0 : x = 0
                · subst x0
                  have PX : raCo 1 0 = false := by simp [raCo, raNe, wiF]
                  have NL := Lib.hid (all_off (l := F) (d := 0) (p := raCo 1) (j := i) (by rw [FE.out]; exact hlt) (by rw [HX.out]; exact PX))
                  clear PX HX
                  go_wp2_with fail
                  go_ret
                  refine ⟨congrArg (fun b => Ending.returned (Value.bool b)) ?_, B1.out⟩
                  simp [raF, NL.out]
                · have dx : (x == 0) = false := by simpa using x0
                  by_cases x3 : x < 0
                  · have x3 := x3
                    have PX : raCo 1 x = true := by simp [raCo, raNe, wiF]; omega
                    have G := Lib.hid (upto_succ HA_F.out (by rw [HX.out]; exact PX))
                    clear PX HX
                    go_wp2_with fail
                    go_roundw
                    case rel => exact ⟨i + 1, by rw [FE.out]; omega, by go_num, G.out, rfl⟩
                    simp [intOf]; omega
                  · have x3 := x3
                    have PX : raCo 1 x = true := by simp [raCo, raNe, wiF]; omega
                    have G := Lib.hid (upto_succ HA_F.out (by rw [HX.out]; exact PX))
                    clear PX HX
                    go_wp2_with fail
                    go_roundw
                    case rel => exact ⟨i + 1, by rw [FE.out]; omega, by go_num, G.out, rfl⟩
                    simp [intOf]; omega
          · obtain rfl : n2 = i := by omega
            have AL_F := Lib.hid (all_upto (l := F) (d := 0) (p := raCo 1) (fun j hj => HA_F.out j (by rw [← FE.out]; exact hj)))
            go_wp2_with fail
            refine wp_loop_rounds 1 ?_
            rw [rounds_succ]
            go_wp2_with fail
            refine wp_loop_rounds 1 ?_
            rw [rounds_succ]
            have EF : Hid (∀ rel, (rel = 1 ∨ rel = 3 ∨ rel = 4) → raF 1 rel bd F [] [] = wiF bd (-1099511627776) 1099511627776) := Lib.hid (by intro rel hr; simp [raF, raRl, raB, shF, AL_F.out]; intro _; omega)
            by_cases b1 : -1099511627776 ≤ bd
            · by_cases b2 : bd ≤ 1099511627776
              · have b2 := b2
                have E9 : Hid (wiF bd (-1099511627776) 1099511627776 = true) := Lib.hid (by simp [wiF, b1, b2])
                go_wp2_with fail
                go_ret
                refine ⟨congrArg (fun b => Ending.returned (Value.bool b)) ?_, B1.out⟩
                rw [EF.out _ (by decide), E9.out] <;> first | rfl | simp [b1, b2]
              · have b2 := b2
                have E9 : Hid (wiF bd (-1099511627776) 1099511627776 = false) := Lib.hid (by simp [wiF, b1, b2])
                go_wp2_with fail
                go_ret
                refine ⟨congrArg (fun b => Ending.returned (Value.bool b)) ?_, B1.out⟩
                rw [EF.out _ (by decide), E9.out] <;> first | rfl | simp [b1, b2]
            · have b1 := b1
              have E9 : Hid (wiF bd (-1099511627776) 1099511627776 = false) := Lib.hid (by simp [wiF, b1])
              go_wp2_with fail
              go_ret
              refine ⟨congrArg (fun b => Ending.returned (Value.bool b)) ?_, B1.out⟩
              rw [EF.out _ (by decide), E9.out] <;> first | rfl | simp [b1]
      · rcases hr with rfl | rfl | rfl
        all_goals
          go_enter Tryz.func58, Tryz.ntmps58
          go_wp2_with fail
          go_loopw [34] (fun v wr => RaL (raCo 10) 0 W1 F v wr) (fun v _ => n2 - (intOf v).toNat)
          case atStart => exact ⟨0, Nat.zero_le _, rfl, fun j hj => absurd hj (by omega), rfl⟩
          obtain ⟨i, hi, rfl, hall, rfl⟩ := hrel
          have HA_F := Lib.hid hall
          clear hall
          rw [FE.out] at hi
          by_cases hlt : i < n2
          · obtain ⟨g2, o2, rfl, kk⟩ := FA.out (by intro e; have := FE.out; rw [e] at this; simp at this; omega)
            have t0 := kk i (by rw [FE.out]; exact hlt)
            clear kk
            obtain ⟨x, hx⟩ : ∃ x, F.getD i 0 = x := ⟨_, rfl⟩
            rw [hx] at t0
            have HX := Lib.hid hx
            clear hx
            have wi : IntKind.i64.wrap ((i : Int) + 1) = (i : Int) + 1 := wrap_in (by omega) (by have := F2.out; have := F3.out; omega)
            by_cases x1 : x < -100000
            · have dx : (x == 0) = false := by simp; omega
              have PX : raCo 10 x = false := by simp [raCo, raNe, wiF]; omega
              have NL := Lib.hid (all_off (l := F) (d := 0) (p := raCo 10) (j := i) (by rw [FE.out]; exact hlt) (by rw [HX.out]; exact PX))
              clear PX HX
              go_wp2_with fail
              go_ret
              refine ⟨congrArg (fun b => Ending.returned (Value.bool b)) ?_, B1.out⟩
              simp [raF, NL.out]
            · by_cases x2 : 100000 < x
              · have dx : (x == 0) = false := by simp; omega
                have PX : raCo 10 x = false := by simp [raCo, raNe, wiF]; omega
                have NL := Lib.hid (all_off (l := F) (d := 0) (p := raCo 10) (j := i) (by rw [FE.out]; exact hlt) (by rw [HX.out]; exact PX))
                clear PX HX
                go_wp2_with fail
                go_ret
                refine ⟨congrArg (fun b => Ending.returned (Value.bool b)) ?_, B1.out⟩
                simp [raF, NL.out]
              · by_cases x0 : x = 0
                · subst x0
                  have PX : raCo 10 0 = false := by simp [raCo, raNe, wiF]
                  have NL := Lib.hid (all_off (l := F) (d := 0) (p := raCo 10) (j := i) (by rw [FE.out]; exact hlt) (by rw [HX.out]; exact PX))
                  clear PX HX
                  go_wp2_with fail
                  go_ret
                  refine ⟨congrArg (fun b => Ending.returned (Value.bool b)) ?_, B1.out⟩
                  simp [raF, NL.out]
                · have dx : (x == 0) = false := by simpa using x0
                  by_cases x3 : x < 0
                  · have x3 := x3
                    have PX : raCo 10 x = true := by simp [raCo, raNe, wiF]; omega
                    have G := Lib.hid (upto_succ HA_F.out (by rw [HX.out]; exact PX))
                    clear PX HX
                    go_wp2_with fail
                    go_roundw
                    case rel => exact ⟨i + 1, by rw [FE.out]; omega, by go_num, G.out, rfl⟩
                    simp [intOf]; omega
                  · have x3 := x3
                    have PX : raCo 10 x = true := by simp [raCo, raNe, wiF]; omega
                    have G := Lib.hid (upto_succ HA_F.out (by rw [HX.out]; exact PX))
                    clear PX HX
                    go_wp2_with fail
                    go_roundw
                    case rel => exact ⟨i + 1, by rw [FE.out]; omega, by go_num, G.out, rfl⟩
                    simp [intOf]; omega
          · obtain rfl : n2 = i := by omega
            have AL_F := Lib.hid (all_upto (l := F) (d := 0) (p := raCo 10) (fun j hj => HA_F.out j (by rw [← FE.out]; exact hj)))
            go_wp2_with fail
            refine wp_loop_rounds 1 ?_
            rw [rounds_succ]
            go_wp2_with fail
            refine wp_loop_rounds 1 ?_
            rw [rounds_succ]
            have EF : Hid (∀ rel, (rel = 1 ∨ rel = 3 ∨ rel = 4) → raF 10 rel bd F [] [] = wiF bd (-1099511627776) 1099511627776) := Lib.hid (by intro rel hr; simp [raF, raRl, raB, shF, AL_F.out]; intro _; omega)
            by_cases b1 : -1099511627776 ≤ bd
            · by_cases b2 : bd ≤ 1099511627776
              · have b2 := b2
                have E9 : Hid (wiF bd (-1099511627776) 1099511627776 = true) := Lib.hid (by simp [wiF, b1, b2])
                go_wp2_with fail
                go_ret
                refine ⟨congrArg (fun b => Ending.returned (Value.bool b)) ?_, B1.out⟩
                rw [EF.out _ (by decide), E9.out] <;> first | rfl | simp [b1, b2]
              · have b2 := b2
                have E9 : Hid (wiF bd (-1099511627776) 1099511627776 = false) := Lib.hid (by simp [wiF, b1, b2])
                go_wp2_with fail
                go_ret
                refine ⟨congrArg (fun b => Ending.returned (Value.bool b)) ?_, B1.out⟩
                rw [EF.out _ (by decide), E9.out] <;> first | rfl | simp [b1, b2]
            · have b1 := b1
              have E9 : Hid (wiF bd (-1099511627776) 1099511627776 = false) := Lib.hid (by simp [wiF, b1])
              go_wp2_with fail
              go_ret
              refine ⟨congrArg (fun b => Ending.returned (Value.bool b)) ?_, B1.out⟩
              rw [EF.out _ (by decide), E9.out] <;> first | rfl | simp [b1]
    · have q1 : (rel != 1) = true := by simpa using r1
      have q3 : (rel != 3) = true := by simpa using r3
      have q4 : (rel != 4) = true := by simpa using r4
      rcases k1 with rfl | rfl
      all_goals
        go_enter Tryz.func58, Tryz.ntmps58
        go_wp2_with fail
        go_ret
        refine ⟨congrArg (fun b => Ending.returned (Value.bool b)) ?_, B1.out⟩
        simp [raF, raRl, shF, r1, r3, r4]
  · have k1a : k ≠ 1 := fun e => k1 (Or.inl e)
    have k1b : k ≠ 10 := fun e => k1 (Or.inr e)
    rw [if_neg k9] at f2
    subst f2
    have f1' : n2 = 0 := by rw [no_co _ k1a k9 k1b] at f1; omega
    clear f1
    subst f1'
    have z3 : D = [] := List.eq_nil_of_length_eq_zero DE.out
    subst z3
    have z2 : F = [] := List.eq_nil_of_length_eq_zero FE.out
    subst z2
    have RL : Hid (raRl k rel = true) := Lib.hid (by simp [raRl, no_rel hk k1a k1b])
    have hre' : false = re' := by rw [← hre]; exact (no_rel hk k1a k1b).symm
    subst hre'
    clear f3 f4 hre
    have dd9 : (k == 9) = false := by simpa using k9
    clear k1
    go_enter Tryz.func58, Tryz.ntmps58
    go_wp2_with fail
    refine wp_loop_rounds 1 ?_
    rw [rounds_succ]
    go_wp2_with fail
    refine wp_loop_rounds 1 ?_
    rw [rounds_succ]
    go_wp2_with fail
    go_loopw [81] (fun v wr => RaQ W1 T v wr) (fun v _ => n6 - (intOf v).toNat)
    case atStart => exact ⟨0, Nat.zero_le _, rfl, fun j hj => absurd hj (by omega), Qt.refl _⟩
    obtain ⟨i, hi, rfl, hall, hq⟩ := hrel
    have HA := Lib.hid hall
    clear hall
    rw [TE.out] at hi
    have Q := Lib.hid hq
    clear hq
    replace p0 := Q.out.cell p0
    replace p1 := Q.out.cell p1
    replace p2 := Q.out.cell p2
    replace p3 := Q.out.cell p3
    replace p4 := Q.out.cell p4
    replace p5 := Q.out.cell p5
    replace p6 := Q.out.cell p6
    have TB := Lib.hid (TA.out.below Q.out.below)
    have B2 : Hid (Below w.heap.size w wr) := Lib.hid (over B1.out Q.out.below)
    by_cases hlt : i < n6
    · obtain ⟨g6, o6, rfl, kk⟩ := TB.out (by intro e; have := TE.out; rw [e] at this; simp at this; omega)
      obtain ⟨ai, ci, t0, u1, u2, u3⟩ := kk i (by rw [TE.out]; exact hlt)
      clear kk
      obtain ⟨m, hm⟩ : ∃ m, (T.getD i []).length = m := ⟨_, rfl⟩
      rw [hm] at t0 u2
      have C := Lib.hid (con92_any u1 hm u2 u3)
      clear hm u1
      have wi : IntKind.i64.wrap ((i : Int) + 1) = (i : Int) + 1 := wrap_in (by omega) (by have := T2.out; have := T3.out; omega)
      obtain ⟨b, hb⟩ : ∃ b, (T.getD i []).any ouF = b := ⟨_, rfl⟩
      rw [hb] at C
      cases b
      · have G := Lib.hid (upto_succ (l := T) (p := fun t => !t.any ouF) (d := []) HA.out (by rw [hb]; rfl))
        clear hb
        go_wp2_with (go_at_call 50; refine C.out.mono ?_; rintro e w9 ⟨rfl, hq⟩; have Q9 := Lib.hid hq; clear hq)
        go_roundw
        case rel => exact ⟨i + 1, by rw [TE.out]; omega, by go_num, G.out, Q.out.trans Q9.out⟩
        simp [intOf]; omega
      · have NL := Lib.hid (all_off (l := T) (d := []) (p := fun t => !t.any ouF) (j := i) (by rw [TE.out]; exact hlt) (by rw [hb]; rfl))
        clear hb
        go_wp2_with (go_at_call 50; refine C.out.mono ?_; rintro e w9 ⟨rfl, hq⟩; have Q9 := Lib.hid hq; clear hq)
        go_ret
        refine ⟨congrArg (fun b => Ending.returned (Value.bool b)) ?_, over B1.out (Q.out.trans Q9.out).below⟩
        simp only [raF, NL.out, Bool.and_false, Bool.false_and]
    · obtain rfl : n6 = i := by omega
      have AL := Lib.hid (all_upto (l := T) (d := []) (p := fun t => !t.any ouF) (fun j hj => HA.out j (by rw [← TE.out]; exact hj)))
      have E : Hid (raF k rel bd [] [] T = raB k bd) := Lib.hid (by simp only [raF, RL.out, AL.out, List.all_nil, Bool.and_true, Bool.true_and])
      clear AL RL HA TA TB TE
      by_cases k7 : k = 7
      · subst k7
        have E2 : Hid (raB 7 bd = wiF bd 0 1) := Lib.hid rfl
        by_cases b1 : 0 ≤ bd
        · by_cases b2 : bd ≤ 1
          · have b2 := b2
            have E9 : Hid (wiF bd 0 1 = true) := Lib.hid (by simp [wiF, b1, b2])
            go_wp2_with fail
            go_ret
            refine ⟨congrArg (fun b => Ending.returned (Value.bool b)) ?_, B2.out⟩
            rw [E.out, E2.out, E9.out] <;> first | rfl | simp [b1, b2]
          · have b2 := b2
            have E9 : Hid (wiF bd 0 1 = false) := Lib.hid (by simp [wiF, b1, b2])
            go_wp2_with fail
            go_ret
            refine ⟨congrArg (fun b => Ending.returned (Value.bool b)) ?_, B2.out⟩
            rw [E.out, E2.out, E9.out] <;> first | rfl | simp [b1, b2]
        · have b1 := b1
          have E9 : Hid (wiF bd 0 1 = false) := Lib.hid (by simp [wiF, b1])
          go_wp2_with fail
          go_ret
          refine ⟨congrArg (fun b => Ending.returned (Value.bool b)) ?_, B2.out⟩
          rw [E.out, E2.out, E9.out] <;> first | rfl | simp [b1]
      · have d7 : (k == 7) = false := by simpa using k7
        by_cases k2 : k = 2
        · subst k2
          have E2 : Hid (raB 2 bd = wiF bd (-16384) 16384) := Lib.hid rfl
          by_cases b1 : -16384 ≤ bd
          · by_cases b2 : bd ≤ 16384
            · have b2 := b2
              have E9 : Hid (wiF bd (-16384) 16384 = true) := Lib.hid (by simp [wiF, b1, b2])
              go_wp2_with fail
              go_ret
              refine ⟨congrArg (fun b => Ending.returned (Value.bool b)) ?_, B2.out⟩
              rw [E.out, E2.out, E9.out] <;> first | rfl | simp [b1, b2]
            · have b2 := b2
              have E9 : Hid (wiF bd (-16384) 16384 = false) := Lib.hid (by simp [wiF, b1, b2])
              go_wp2_with fail
              go_ret
              refine ⟨congrArg (fun b => Ending.returned (Value.bool b)) ?_, B2.out⟩
              rw [E.out, E2.out, E9.out] <;> first | rfl | simp [b1, b2]
          · have b1 := b1
            have E9 : Hid (wiF bd (-16384) 16384 = false) := Lib.hid (by simp [wiF, b1])
            go_wp2_with fail
            go_ret
            refine ⟨congrArg (fun b => Ending.returned (Value.bool b)) ?_, B2.out⟩
            rw [E.out, E2.out, E9.out] <;> first | rfl | simp [b1]
        · have dd2 : (k == 2) = false := by simpa using k2
          by_cases k8 : k = 8
          · subst k8
            have E2 : Hid (raB 8 bd = wiF bd (-16384) 16384) := Lib.hid rfl
            by_cases b1 : -16384 ≤ bd
            · by_cases b2 : bd ≤ 16384
              · have b2 := b2
                have E9 : Hid (wiF bd (-16384) 16384 = true) := Lib.hid (by simp [wiF, b1, b2])
                go_wp2_with fail
                go_ret
                refine ⟨congrArg (fun b => Ending.returned (Value.bool b)) ?_, B2.out⟩
                rw [E.out, E2.out, E9.out] <;> first | rfl | simp [b1, b2]
              · have b2 := b2
                have E9 : Hid (wiF bd (-16384) 16384 = false) := Lib.hid (by simp [wiF, b1, b2])
                go_wp2_with fail
                go_ret
                refine ⟨congrArg (fun b => Ending.returned (Value.bool b)) ?_, B2.out⟩
                rw [E.out, E2.out, E9.out] <;> first | rfl | simp [b1, b2]
            · have b1 := b1
              have E9 : Hid (wiF bd (-16384) 16384 = false) := Lib.hid (by simp [wiF, b1])
              go_wp2_with fail
              go_ret
              refine ⟨congrArg (fun b => Ending.returned (Value.bool b)) ?_, B2.out⟩
              rw [E.out, E2.out, E9.out] <;> first | rfl | simp [b1]
          · have d8 : (k == 8) = false := by simpa using k8
            have E2 : Hid (raB k bd = wiF bd (-1099511627776) 1099511627776) := Lib.hid (by simp [raB, k7, k2, k8, k9])
            by_cases b1 : -1099511627776 ≤ bd
            · by_cases b2 : bd ≤ 1099511627776
              · have b2 := b2
                have E9 : Hid (wiF bd (-1099511627776) 1099511627776 = true) := Lib.hid (by simp [wiF, b1, b2])
                go_wp2_with fail
                go_ret
                refine ⟨congrArg (fun b => Ending.returned (Value.bool b)) ?_, B2.out⟩
                rw [E.out, E2.out, E9.out] <;> first | rfl | simp [b1, b2]
              · have b2 := b2
                have E9 : Hid (wiF bd (-1099511627776) 1099511627776 = false) := Lib.hid (by simp [wiF, b1, b2])
                go_wp2_with fail
                go_ret
                refine ⟨congrArg (fun b => Ending.returned (Value.bool b)) ?_, B2.out⟩
                rw [E.out, E2.out, E9.out] <;> first | rfl | simp [b1, b2]
            · have b1 := b1
              have E9 : Hid (wiF bd (-1099511627776) 1099511627776 = false) := Lib.hid (by simp [wiF, b1])
              go_wp2_with fail
              go_ret
              refine ⟨congrArg (fun b => Ending.returned (Value.bool b)) ?_, B2.out⟩
              rw [E.out, E2.out, E9.out] <;> first | rfl | simp [b1]
end Go.Proofs.YteiohgiecpibhaaGreat
