/- Whether values satisfy a constraint, in the program. -/
import Derived.Test.YteiohgiecpibhaaGreatND
set_option linter.unusedVariables false
set_option linter.unusedSimpArgs false
set_option maxRecDepth 100000
set_option maxHeartbeats 4000000
namespace Go.Proofs.YteiohgiecpibhaaGreat
open Go.RowKit Fdm

theorem hp1_any {w : World} {rel bd : Int} {V F D : List Int} {T : List (List Int)} {x : List Int} {a1 a2 a3 a6 ax : Option Addr} {n1 c1 n2 c2 n3 c3 n6 c6 cx : Nat} (h : Ka w ⟨1, V, F, D, rel, bd, T⟩ a1 n1 c1 a2 n2 c2 a3 n3 c3 a6 n6 c6) (hx : InA w x ax) (hxb : ∀ b, ax.map (·.block) = some b → b < w.heap.size) (xl : x.length = n1) (hc : n1 ≤ cx) (hcu : cx ≤ 9223372036854775807) (hok : Hok 1 rel bd F D T n1) (lx : ∀ i, i < n1 → -16384 ≤ x.getD i 0 ∧ x.getD i 0 ≤ 16384) :
    Calls Tryz.prog 52 #[.agg #[.int .i64 1, .slice a1 n1 c1, .slice a2 n2 c2, .slice a3 n3 c3, .int .i64 rel, .int .i64 bd, .slice a6 n6 c6], .slice ax n1 cx] w fun e w' => e = .returned (.bool (hoF 1 rel bd F D T x)) ∧ Below w.heap.size w w' := by
  obtain ⟨z, hz⟩ : ∃ z : Bool, hoF 1 rel bd F D T x = z := ⟨_, rfl⟩
  have HZ := Lib.hid hz
  rw [hz]
  clear hz
  have GE := Lib.hid (ar_ge hok.hk hok.ar)
  have n16 := hok.le
  have OK := Lib.hid hok
  have LX := Lib.hid lx
  have HK := Lib.hid h
  have HXB := Lib.hid hxb
  clear hok lx hxb
  obtain ⟨W1, hW1⟩ : ∃ W1, (w.alloc (.cells #[.int .i64 1, .slice a1 n1 c1, .slice a2 n2 c2, .slice a3 n3 c3, .int .i64 rel, .int .i64 bd, .slice a6 n6 c6] 33)).alloc (.cells #[.slice ax n1 cx] 30) = W1 := ⟨_, rfl⟩
  have Z := alloc2 w (.cells #[.int .i64 1, .slice a1 n1 c1, .slice a2 n2 c2, .slice a3 n3 c3, .int .i64 rel, .int .i64 bd, .slice a6 n6 c6] 33) (.cells #[.slice ax n1 cx] 30)
  rw [hW1] at Z
  obtain ⟨I0, I1, hB, hsz⟩ := Z
  have SZ := Lib.hid hsz
  have B1 := Lib.hid hB
  have p0 : W1.cell? ⟨w.heap.size, 0, none⟩ = some (.int .i64 1) := by rw [cell_of_row _ _ _ _ _ _ I0]; rfl
  have p1 : W1.cell? ⟨w.heap.size, 1, none⟩ = some (.slice a1 n1 c1) := by rw [cell_of_row _ _ _ _ _ _ I0]; rfl
  have p2 : W1.cell? ⟨w.heap.size, 2, none⟩ = some (.slice a2 n2 c2) := by rw [cell_of_row _ _ _ _ _ _ I0]; rfl
  have p3 : W1.cell? ⟨w.heap.size, 3, none⟩ = some (.slice a3 n3 c3) := by rw [cell_of_row _ _ _ _ _ _ I0]; rfl
  have p4 : W1.cell? ⟨w.heap.size, 4, none⟩ = some (.int .i64 rel) := by rw [cell_of_row _ _ _ _ _ _ I0]; rfl
  have p5 : W1.cell? ⟨w.heap.size, 5, none⟩ = some (.int .i64 bd) := by rw [cell_of_row _ _ _ _ _ _ I0]; rfl
  have p6 : W1.cell? ⟨w.heap.size, 6, none⟩ = some (.slice a6 n6 c6) := by rw [cell_of_row _ _ _ _ _ _ I0]; rfl
  have q0 : W1.cell? ⟨w.heap.size + 1, 0, none⟩ = some (.slice ax n1 cx) := by rw [cell_of_row _ _ _ _ _ _ I1]; rfl
  have KB := Lib.hid (h.below hB)
  have XL := Lib.hid xl
  have XA : Hid (InA W1 x ax) := Lib.hid (hx.below hB)
  clear hx xl h I0 I1 hB hsz
  have FN : Hid (F.length = n1) := Lib.hid (by have := OK.out.co.1; simp [coF] at this; omega)
  have E2 : n2 = n1 := by have h1 : F.length = n2 := HK.out.rf.e; have h2 := FN.out; omega
  subst E2
  have SO : Hid (SuOk F x n2) := Lib.hid (su_ok (fun i hi => OK.out.f i (by rw [FN.out]; exact hi)) LX.out n16)
  have SU := Lib.hid (fun (w9 : World) (hb : Below W1.heap.size W1 w9) => sum_any (KB.out.f.below hb) HK.out.rf.e HK.out.rf.l HK.out.rf.u (XA.out.below hb) XL.out hc hcu (Nat.le_refl _) SO.out)
  obtain ⟨s, hs⟩ : ∃ s, suF F x n2 = s := ⟨_, rfl⟩
  have SU2 : Hid (∀ (w9 : World), Below W1.heap.size W1 w9 → Calls Tryz.prog 80 #[.slice a2 n2 c2, .slice ax n2 cx] w9 fun e w' => e = .returned (.int .i64 s) ∧ w' = w9) := Lib.hid (by rw [← hs]; exact SU.out)
  have RE := Lib.hid (fun (w : World) => compared_any s rel bd w)
  have AN : Hid (z = reF s rel bd) := Lib.hid (by rw [← HZ.out, ← hs, ← XL.out]; rfl)
  clear SU hs
  go_enter Tryz.func52, Tryz.ntmps52
  go_upto_region 3 with fail
  refine Rg.s0 9 [] fun WD DW => ?_
  refine Rg.t 0 ?_
  refine Rg.t 1 ?_
  refine Rg.t 2 ?_
  refine Rg.t 4 ?_
  refine Rg.t 5 ?_
  refine Rg.t 6 ?_
  refine Rg.t 7 ?_
  refine Rg.c1 3 fun K' hK => ?_
  go_simp
  go_at_call 80
  refine (SU2.out _ DW).mono ?_
  rintro e w2 ⟨rfl, hw⟩
  have hw := hw.symm
  subst hw
  refine Rg.e1 hK DW ?_
  clear hK K'
  refine Rg.c1 8 fun K' hK => ?_
  go_simp
  go_at_call 79
  refine (RE.out _).mono ?_
  rintro e w2 ⟨rfl, hw⟩
  have hw := hw.symm
  subst hw
  refine Rg.e1 hK DW ?_
  clear hK K'
  refine Rg.l1 ?_
  go_simp
  go_wp2_with fail
  go_ret
  exact ⟨by rw [AN.out]; rfl, over B1.out DW⟩
theorem hp10_any {w : World} {rel bd : Int} {V F D : List Int} {T : List (List Int)} {x : List Int} {a1 a2 a3 a6 ax : Option Addr} {n1 c1 n2 c2 n3 c3 n6 c6 cx : Nat} (h : Ka w ⟨10, V, F, D, rel, bd, T⟩ a1 n1 c1 a2 n2 c2 a3 n3 c3 a6 n6 c6) (hx : InA w x ax) (hxb : ∀ b, ax.map (·.block) = some b → b < w.heap.size) (xl : x.length = n1) (hc : n1 ≤ cx) (hcu : cx ≤ 9223372036854775807) (hok : Hok 10 rel bd F D T n1) (lx : ∀ i, i < n1 → -16384 ≤ x.getD i 0 ∧ x.getD i 0 ≤ 16384) :
    Calls Tryz.prog 52 #[.agg #[.int .i64 10, .slice a1 n1 c1, .slice a2 n2 c2, .slice a3 n3 c3, .int .i64 rel, .int .i64 bd, .slice a6 n6 c6], .slice ax n1 cx] w fun e w' => e = .returned (.bool (hoF 10 rel bd F D T x)) ∧ Below w.heap.size w w' := by
  obtain ⟨z, hz⟩ : ∃ z : Bool, hoF 10 rel bd F D T x = z := ⟨_, rfl⟩
  have HZ := Lib.hid hz
  rw [hz]
  clear hz
  have GE := Lib.hid (ar_ge hok.hk hok.ar)
  have n16 := hok.le
  have OK := Lib.hid hok
  have LX := Lib.hid lx
  have HK := Lib.hid h
  have HXB := Lib.hid hxb
  clear hok lx hxb
  obtain ⟨W1, hW1⟩ : ∃ W1, (w.alloc (.cells #[.int .i64 10, .slice a1 n1 c1, .slice a2 n2 c2, .slice a3 n3 c3, .int .i64 rel, .int .i64 bd, .slice a6 n6 c6] 33)).alloc (.cells #[.slice ax n1 cx] 30) = W1 := ⟨_, rfl⟩
  have Z := alloc2 w (.cells #[.int .i64 10, .slice a1 n1 c1, .slice a2 n2 c2, .slice a3 n3 c3, .int .i64 rel, .int .i64 bd, .slice a6 n6 c6] 33) (.cells #[.slice ax n1 cx] 30)
  rw [hW1] at Z
  obtain ⟨I0, I1, hB, hsz⟩ := Z
  have SZ := Lib.hid hsz
  have B1 := Lib.hid hB
  have p0 : W1.cell? ⟨w.heap.size, 0, none⟩ = some (.int .i64 10) := by rw [cell_of_row _ _ _ _ _ _ I0]; rfl
  have p1 : W1.cell? ⟨w.heap.size, 1, none⟩ = some (.slice a1 n1 c1) := by rw [cell_of_row _ _ _ _ _ _ I0]; rfl
  have p2 : W1.cell? ⟨w.heap.size, 2, none⟩ = some (.slice a2 n2 c2) := by rw [cell_of_row _ _ _ _ _ _ I0]; rfl
  have p3 : W1.cell? ⟨w.heap.size, 3, none⟩ = some (.slice a3 n3 c3) := by rw [cell_of_row _ _ _ _ _ _ I0]; rfl
  have p4 : W1.cell? ⟨w.heap.size, 4, none⟩ = some (.int .i64 rel) := by rw [cell_of_row _ _ _ _ _ _ I0]; rfl
  have p5 : W1.cell? ⟨w.heap.size, 5, none⟩ = some (.int .i64 bd) := by rw [cell_of_row _ _ _ _ _ _ I0]; rfl
  have p6 : W1.cell? ⟨w.heap.size, 6, none⟩ = some (.slice a6 n6 c6) := by rw [cell_of_row _ _ _ _ _ _ I0]; rfl
  have q0 : W1.cell? ⟨w.heap.size + 1, 0, none⟩ = some (.slice ax n1 cx) := by rw [cell_of_row _ _ _ _ _ _ I1]; rfl
  have KB := Lib.hid (h.below hB)
  have XL := Lib.hid xl
  have XA : Hid (InA W1 x ax) := Lib.hid (hx.below hB)
  clear hx xl h I0 I1 hB hsz
  obtain ⟨-, -, -, -, -, -, g10⟩ := GE.out
  have n2le := g10 rfl
  clear g10
  obtain ⟨gx, ox, rfl, kx⟩ := XA.out (by intro e; have := XL.out; rw [e, List.length_nil] at this; omega)
  obtain ⟨m, rfl⟩ : ∃ m, n1 = m + 1 := ⟨n1 - 1, by omega⟩
  have FN : Hid (F.length = m) := Lib.hid (by have := OK.out.co.1; simp [coF] at this; omega)
  have E2 : n2 = m := by have h1 : F.length = n2 := HK.out.rf.e; have h2 := FN.out; omega
  subst E2
  have SO : Hid (SuOk F (x.drop 1) n2) := Lib.hid (su_ok (fun i hi => OK.out.f i (by have := FN.out; omega)) (fun i hi => by rw [drop_at]; exact LX.out (i + 1) (by omega)) (by omega))
  have XD : Hid (InA W1 (x.drop 1) (some ⟨gx, ox + 1, none⟩)) := Lib.hid (fun _ => ⟨gx, ox + 1, rfl, fun i hi => by
    rw [List.length_drop, XL.out] at hi
    rw [drop_at, Nat.add_assoc, Nat.add_comm 1 i]
    exact kx (i + 1) (by rw [XL.out]; omega)⟩)
  have SU := Lib.hid (fun (w9 : World) (hb : Below W1.heap.size W1 w9) => sum_any (d := cx - 1) (KB.out.f.below hb) HK.out.rf.e HK.out.rf.l HK.out.rf.u (XD.out.below hb) (by rw [List.length_drop, XL.out, Nat.add_sub_cancel]) (by omega) (by omega) (by omega) SO.out)
  obtain ⟨s, hs⟩ : ∃ s, suF F (x.drop 1) n2 = s := ⟨_, rfl⟩
  have SU2 : Hid (∀ (w9 : World), Below W1.heap.size W1 w9 → Calls Tryz.prog 80 #[.slice a2 n2 c2, .slice (some ⟨gx, ox + 1, none⟩) n2 (cx - 1)] w9 fun e w' => e = .returned (.int .i64 s) ∧ w' = w9) := Lib.hid (by rw [← hs]; exact SU.out)
  obtain ⟨b, hb⟩ : ∃ b, reF s rel bd = b := ⟨_, rfl⟩
  have RE := Lib.hid (fun (w : World) => compared_any s rel bd w)
  rw [hb] at RE
  have r0 := kx 0 (by rw [XL.out]; omega)
  rw [Nat.add_zero] at r0
  obtain ⟨h0, hh0⟩ : ∃ h0, x.getD 0 0 = h0 := ⟨_, rfl⟩
  have l0 := LX.out 0 (by omega)
  rw [hh0] at r0 l0
  have H0 := Lib.hid hh0
  clear hh0
  have AN : Hid (z = ((h0 == 1 && b) || (h0 == 0 && !b))) := Lib.hid (by rw [← HZ.out]; show ((x.getD 0 0 == 1 && reF (suF F (x.drop 1) (x.length - 1)) rel bd) || (x.getD 0 0 == 0 && !reF (suF F (x.drop 1) (x.length - 1)) rel bd)) = _; rw [XL.out, Nat.add_sub_cancel, hs, hb, H0.out])
  have cx1 : 1 ≤ cx := by omega
  have cx1i : (1 : Int) ≤ (cx : Int) := by omega
  have cxn : ¬ cx = 1 := by omega
  have m1 : (1 : Int) ≤ (n2 : Int) + 1 := by omega
  clear SU hs hb l0 kx
  go_enter Tryz.func52, Tryz.ntmps52
  go_upto_region 29 with fail
  refine Rg.s0 10 [] fun WD DW => ?_
  refine Rg.t 0 ?_
  refine Rg.t 1 ?_
  refine Rg.t 2 ?_
  refine Rg.t 3 ?_
  refine Rg.t 5 ?_
  refine Rg.t 6 ?_
  refine Rg.t 7 ?_
  refine Rg.t 8 ?_
  refine Rg.c1 4 fun K' hK => ?_
  go_simp
  go_at_call 80
  refine (SU2.out _ DW).mono ?_
  rintro e w2 ⟨rfl, hw⟩
  have hw := hw.symm
  subst hw
  refine Rg.e1 hK DW ?_
  clear hK K'
  refine Rg.c1 9 fun K' hK => ?_
  go_simp
  go_at_call 79
  refine (RE.out _).mono ?_
  rintro e w2 ⟨rfl, hw⟩
  have hw := hw.symm
  subst hw
  refine Rg.e1 hK DW ?_
  clear hK K'
  refine Rg.l1 ?_
  go_simp
  replace q0 := cell_later DW (Nat.le_refl _) q0
  replace r0 := cell_later DW (Nat.le_refl _) r0
  by_cases q1 : h0 = 1
  · subst q1
    cases b
    all_goals
      go_wp2_with fail
      go_ret
      exact ⟨by rw [AN.out]; rfl, over B1.out DW⟩
  · by_cases q9 : h0 = 0
    · subst q9
      cases b
      all_goals
        go_wp2_with fail
        go_ret
        exact ⟨by rw [AN.out]; rfl, over B1.out DW⟩
    · have d1 : (h0 == 1) = false := by simpa using q1
      have d0 : (h0 == 0) = false := by simpa using q9
      go_wp2_with fail
      go_ret
      exact ⟨by rw [AN.out, d1, d0]; rfl, over B1.out DW⟩
theorem hp2_any {w : World} {rel bd : Int} {V F D : List Int} {T : List (List Int)} {x : List Int} {a1 a2 a3 a6 ax : Option Addr} {n1 c1 n2 c2 n3 c3 n6 c6 cx : Nat} (h : Ka w ⟨2, V, F, D, rel, bd, T⟩ a1 n1 c1 a2 n2 c2 a3 n3 c3 a6 n6 c6) (hx : InA w x ax) (hxb : ∀ b, ax.map (·.block) = some b → b < w.heap.size) (xl : x.length = n1) (hc : n1 ≤ cx) (hcu : cx ≤ 9223372036854775807) (hok : Hok 2 rel bd F D T n1) (lx : ∀ i, i < n1 → -16384 ≤ x.getD i 0 ∧ x.getD i 0 ≤ 16384) :
    Calls Tryz.prog 52 #[.agg #[.int .i64 2, .slice a1 n1 c1, .slice a2 n2 c2, .slice a3 n3 c3, .int .i64 rel, .int .i64 bd, .slice a6 n6 c6], .slice ax n1 cx] w fun e w' => e = .returned (.bool (hoF 2 rel bd F D T x)) ∧ Below w.heap.size w w' := by
  obtain ⟨z, hz⟩ : ∃ z : Bool, hoF 2 rel bd F D T x = z := ⟨_, rfl⟩
  have HZ := Lib.hid hz
  rw [hz]
  clear hz
  have GE := Lib.hid (ar_ge hok.hk hok.ar)
  have n16 := hok.le
  have OK := Lib.hid hok
  have LX := Lib.hid lx
  have HK := Lib.hid h
  have HXB := Lib.hid hxb
  clear hok lx hxb
  obtain ⟨W1, hW1⟩ : ∃ W1, (w.alloc (.cells #[.int .i64 2, .slice a1 n1 c1, .slice a2 n2 c2, .slice a3 n3 c3, .int .i64 rel, .int .i64 bd, .slice a6 n6 c6] 33)).alloc (.cells #[.slice ax n1 cx] 30) = W1 := ⟨_, rfl⟩
  have Z := alloc2 w (.cells #[.int .i64 2, .slice a1 n1 c1, .slice a2 n2 c2, .slice a3 n3 c3, .int .i64 rel, .int .i64 bd, .slice a6 n6 c6] 33) (.cells #[.slice ax n1 cx] 30)
  rw [hW1] at Z
  obtain ⟨I0, I1, hB, hsz⟩ := Z
  have SZ := Lib.hid hsz
  have B1 := Lib.hid hB
  have p0 : W1.cell? ⟨w.heap.size, 0, none⟩ = some (.int .i64 2) := by rw [cell_of_row _ _ _ _ _ _ I0]; rfl
  have p1 : W1.cell? ⟨w.heap.size, 1, none⟩ = some (.slice a1 n1 c1) := by rw [cell_of_row _ _ _ _ _ _ I0]; rfl
  have p2 : W1.cell? ⟨w.heap.size, 2, none⟩ = some (.slice a2 n2 c2) := by rw [cell_of_row _ _ _ _ _ _ I0]; rfl
  have p3 : W1.cell? ⟨w.heap.size, 3, none⟩ = some (.slice a3 n3 c3) := by rw [cell_of_row _ _ _ _ _ _ I0]; rfl
  have p4 : W1.cell? ⟨w.heap.size, 4, none⟩ = some (.int .i64 rel) := by rw [cell_of_row _ _ _ _ _ _ I0]; rfl
  have p5 : W1.cell? ⟨w.heap.size, 5, none⟩ = some (.int .i64 bd) := by rw [cell_of_row _ _ _ _ _ _ I0]; rfl
  have p6 : W1.cell? ⟨w.heap.size, 6, none⟩ = some (.slice a6 n6 c6) := by rw [cell_of_row _ _ _ _ _ _ I0]; rfl
  have q0 : W1.cell? ⟨w.heap.size + 1, 0, none⟩ = some (.slice ax n1 cx) := by rw [cell_of_row _ _ _ _ _ _ I1]; rfl
  have KB := Lib.hid (h.below hB)
  have XL := Lib.hid xl
  have XA : Hid (InA W1 x ax) := Lib.hid (hx.below hB)
  clear hx xl h I0 I1 hB hsz
  have g2 : n1 = 2 := GE.out.2.1 rfl
  subst g2
  obtain ⟨gx, ox, rfl, kx⟩ := XA.out (by intro e; have := XL.out; rw [e, List.length_nil] at this; omega)
  have r0 := kx 0 (by rw [XL.out]; omega)
  rw [Nat.add_zero] at r0
  obtain ⟨h0, hh0⟩ : ∃ h0, x.getD 0 0 = h0 := ⟨_, rfl⟩
  have l0 := LX.out 0 (by omega)
  rw [hh0] at r0 l0
  have H0 := Lib.hid hh0
  clear hh0
  have r1 := kx 1 (by rw [XL.out]; omega)
  obtain ⟨h1, hh1⟩ : ∃ h1, x.getD 1 0 = h1 := ⟨_, rfl⟩
  have l1 := LX.out 1 (by omega)
  rw [hh1] at r1 l1
  have H1 := Lib.hid hh1
  clear hh1
  have hb := OK.out.b.2.2.1 rfl
  have wa : IntKind.i64.wrap (h1 + bd) = h1 + bd := wrap_in (by omega) (by omega)
  have AN : Hid (z = (h0 == h1 + bd)) := Lib.hid (by rw [← HZ.out]; show (x.getD 0 0 == x.getD 1 0 + bd) = _; rw [H0.out, H1.out])
  clear kx hb l0 l1
  go_enter Tryz.func52, Tryz.ntmps52
  go_upto_region 5 with fail
  refine Rg.s0 10 [] fun WD DW => ?_
  refine Rg.t 0 ?_
  refine Rg.t 1 ?_
  refine Rg.t 2 ?_
  refine Rg.t 3 ?_
  refine Rg.t 4 ?_
  refine Rg.t 5 ?_
  refine Rg.t 6 ?_
  refine Rg.t 7 ?_
  refine Rg.t 8 ?_
  refine Rg.t 9 ?_
  refine Rg.l1 ?_
  go_simp
  go_wp2_with fail
  go_ret
  exact ⟨by rw [AN.out]; rfl, over B1.out DW⟩
theorem hp6_any {w : World} {rel bd : Int} {V F D : List Int} {T : List (List Int)} {x : List Int} {a1 a2 a3 a6 ax : Option Addr} {n1 c1 n2 c2 n3 c3 n6 c6 cx : Nat} (h : Ka w ⟨6, V, F, D, rel, bd, T⟩ a1 n1 c1 a2 n2 c2 a3 n3 c3 a6 n6 c6) (hx : InA w x ax) (hxb : ∀ b, ax.map (·.block) = some b → b < w.heap.size) (xl : x.length = n1) (hc : n1 ≤ cx) (hcu : cx ≤ 9223372036854775807) (hok : Hok 6 rel bd F D T n1) (lx : ∀ i, i < n1 → -16384 ≤ x.getD i 0 ∧ x.getD i 0 ≤ 16384) :
    Calls Tryz.prog 52 #[.agg #[.int .i64 6, .slice a1 n1 c1, .slice a2 n2 c2, .slice a3 n3 c3, .int .i64 rel, .int .i64 bd, .slice a6 n6 c6], .slice ax n1 cx] w fun e w' => e = .returned (.bool (hoF 6 rel bd F D T x)) ∧ Below w.heap.size w w' := by
  obtain ⟨z, hz⟩ : ∃ z : Bool, hoF 6 rel bd F D T x = z := ⟨_, rfl⟩
  have HZ := Lib.hid hz
  rw [hz]
  clear hz
  have GE := Lib.hid (ar_ge hok.hk hok.ar)
  have n16 := hok.le
  have OK := Lib.hid hok
  have LX := Lib.hid lx
  have HK := Lib.hid h
  have HXB := Lib.hid hxb
  clear hok lx hxb
  obtain ⟨W1, hW1⟩ : ∃ W1, (w.alloc (.cells #[.int .i64 6, .slice a1 n1 c1, .slice a2 n2 c2, .slice a3 n3 c3, .int .i64 rel, .int .i64 bd, .slice a6 n6 c6] 33)).alloc (.cells #[.slice ax n1 cx] 30) = W1 := ⟨_, rfl⟩
  have Z := alloc2 w (.cells #[.int .i64 6, .slice a1 n1 c1, .slice a2 n2 c2, .slice a3 n3 c3, .int .i64 rel, .int .i64 bd, .slice a6 n6 c6] 33) (.cells #[.slice ax n1 cx] 30)
  rw [hW1] at Z
  obtain ⟨I0, I1, hB, hsz⟩ := Z
  have SZ := Lib.hid hsz
  have B1 := Lib.hid hB
  have p0 : W1.cell? ⟨w.heap.size, 0, none⟩ = some (.int .i64 6) := by rw [cell_of_row _ _ _ _ _ _ I0]; rfl
  have p1 : W1.cell? ⟨w.heap.size, 1, none⟩ = some (.slice a1 n1 c1) := by rw [cell_of_row _ _ _ _ _ _ I0]; rfl
  have p2 : W1.cell? ⟨w.heap.size, 2, none⟩ = some (.slice a2 n2 c2) := by rw [cell_of_row _ _ _ _ _ _ I0]; rfl
  have p3 : W1.cell? ⟨w.heap.size, 3, none⟩ = some (.slice a3 n3 c3) := by rw [cell_of_row _ _ _ _ _ _ I0]; rfl
  have p4 : W1.cell? ⟨w.heap.size, 4, none⟩ = some (.int .i64 rel) := by rw [cell_of_row _ _ _ _ _ _ I0]; rfl
  have p5 : W1.cell? ⟨w.heap.size, 5, none⟩ = some (.int .i64 bd) := by rw [cell_of_row _ _ _ _ _ _ I0]; rfl
  have p6 : W1.cell? ⟨w.heap.size, 6, none⟩ = some (.slice a6 n6 c6) := by rw [cell_of_row _ _ _ _ _ _ I0]; rfl
  have q0 : W1.cell? ⟨w.heap.size + 1, 0, none⟩ = some (.slice ax n1 cx) := by rw [cell_of_row _ _ _ _ _ _ I1]; rfl
  have KB := Lib.hid (h.below hB)
  have XL := Lib.hid xl
  have XA : Hid (InA W1 x ax) := Lib.hid (hx.below hB)
  clear hx xl h I0 I1 hB hsz
  have g6 : n1 = 3 := GE.out.2.2.2.1 rfl
  subst g6
  obtain ⟨gx, ox, rfl, kx⟩ := XA.out (by intro e; have := XL.out; rw [e, List.length_nil] at this; omega)
  have r0 := kx 0 (by rw [XL.out]; omega)
  rw [Nat.add_zero] at r0
  obtain ⟨h0, hh0⟩ : ∃ h0, x.getD 0 0 = h0 := ⟨_, rfl⟩
  have l0 := LX.out 0 (by omega)
  rw [hh0] at r0 l0
  have H0 := Lib.hid hh0
  clear hh0
  have r1 := kx 1 (by rw [XL.out]; omega)
  obtain ⟨h1, hh1⟩ : ∃ h1, x.getD 1 0 = h1 := ⟨_, rfl⟩
  have l1 := LX.out 1 (by omega)
  rw [hh1] at r1 l1
  have H1 := Lib.hid hh1
  clear hh1
  have r2 := kx 2 (by rw [XL.out]; omega)
  obtain ⟨h2, hh2⟩ : ∃ h2, x.getD 2 0 = h2 := ⟨_, rfl⟩
  have l2 := LX.out 2 (by omega)
  rw [hh2] at r2 l2
  have H2 := Lib.hid hh2
  clear hh2
  have mm := mul_in 16384 16384 (by omega) (by omega) (by omega) (by omega) (a := h0) (b := h1)
  have wa : IntKind.i64.wrap (h0 * h1) = h0 * h1 := wrap_in (by omega) (by omega)
  have AN : Hid (z = (h0 * h1 == h2)) := Lib.hid (by rw [← HZ.out]; show (x.getD 0 0 * x.getD 1 0 == x.getD 2 0) = _; rw [H0.out, H1.out, H2.out])
  clear kx mm l0 l1 l2
  go_enter Tryz.func52, Tryz.ntmps52
  go_upto_region 13 with fail
  refine Rg.s0 11 [] fun WD DW => ?_
  refine Rg.t 0 ?_
  refine Rg.t 1 ?_
  refine Rg.t 2 ?_
  refine Rg.t 3 ?_
  refine Rg.t 4 ?_
  refine Rg.t 5 ?_
  refine Rg.t 6 ?_
  refine Rg.t 7 ?_
  refine Rg.t 8 ?_
  refine Rg.t 9 ?_
  refine Rg.t 10 ?_
  refine Rg.l1 ?_
  go_simp
  go_wp2_with fail
  go_ret
  exact ⟨by rw [AN.out]; rfl, over B1.out DW⟩
theorem hp4_any {w : World} {rel bd : Int} {V F D : List Int} {T : List (List Int)} {x : List Int} {a1 a2 a3 a6 ax : Option Addr} {n1 c1 n2 c2 n3 c3 n6 c6 cx : Nat} (h : Ka w ⟨4, V, F, D, rel, bd, T⟩ a1 n1 c1 a2 n2 c2 a3 n3 c3 a6 n6 c6) (hx : InA w x ax) (hxb : ∀ b, ax.map (·.block) = some b → b < w.heap.size) (xl : x.length = n1) (hc : n1 ≤ cx) (hcu : cx ≤ 9223372036854775807) (hok : Hok 4 rel bd F D T n1) (lx : ∀ i, i < n1 → -16384 ≤ x.getD i 0 ∧ x.getD i 0 ≤ 16384) :
    Calls Tryz.prog 52 #[.agg #[.int .i64 4, .slice a1 n1 c1, .slice a2 n2 c2, .slice a3 n3 c3, .int .i64 rel, .int .i64 bd, .slice a6 n6 c6], .slice ax n1 cx] w fun e w' => e = .returned (.bool (hoF 4 rel bd F D T x)) ∧ Below w.heap.size w w' := by
  obtain ⟨z, hz⟩ : ∃ z : Bool, hoF 4 rel bd F D T x = z := ⟨_, rfl⟩
  have HZ := Lib.hid hz
  rw [hz]
  clear hz
  have GE := Lib.hid (ar_ge hok.hk hok.ar)
  have n16 := hok.le
  have OK := Lib.hid hok
  have LX := Lib.hid lx
  have HK := Lib.hid h
  have HXB := Lib.hid hxb
  clear hok lx hxb
  obtain ⟨W1, hW1⟩ : ∃ W1, (w.alloc (.cells #[.int .i64 4, .slice a1 n1 c1, .slice a2 n2 c2, .slice a3 n3 c3, .int .i64 rel, .int .i64 bd, .slice a6 n6 c6] 33)).alloc (.cells #[.slice ax n1 cx] 30) = W1 := ⟨_, rfl⟩
  have Z := alloc2 w (.cells #[.int .i64 4, .slice a1 n1 c1, .slice a2 n2 c2, .slice a3 n3 c3, .int .i64 rel, .int .i64 bd, .slice a6 n6 c6] 33) (.cells #[.slice ax n1 cx] 30)
  rw [hW1] at Z
  obtain ⟨I0, I1, hB, hsz⟩ := Z
  have SZ := Lib.hid hsz
  have B1 := Lib.hid hB
  have p0 : W1.cell? ⟨w.heap.size, 0, none⟩ = some (.int .i64 4) := by rw [cell_of_row _ _ _ _ _ _ I0]; rfl
  have p1 : W1.cell? ⟨w.heap.size, 1, none⟩ = some (.slice a1 n1 c1) := by rw [cell_of_row _ _ _ _ _ _ I0]; rfl
  have p2 : W1.cell? ⟨w.heap.size, 2, none⟩ = some (.slice a2 n2 c2) := by rw [cell_of_row _ _ _ _ _ _ I0]; rfl
  have p3 : W1.cell? ⟨w.heap.size, 3, none⟩ = some (.slice a3 n3 c3) := by rw [cell_of_row _ _ _ _ _ _ I0]; rfl
  have p4 : W1.cell? ⟨w.heap.size, 4, none⟩ = some (.int .i64 rel) := by rw [cell_of_row _ _ _ _ _ _ I0]; rfl
  have p5 : W1.cell? ⟨w.heap.size, 5, none⟩ = some (.int .i64 bd) := by rw [cell_of_row _ _ _ _ _ _ I0]; rfl
  have p6 : W1.cell? ⟨w.heap.size, 6, none⟩ = some (.slice a6 n6 c6) := by rw [cell_of_row _ _ _ _ _ _ I0]; rfl
  have q0 : W1.cell? ⟨w.heap.size + 1, 0, none⟩ = some (.slice ax n1 cx) := by rw [cell_of_row _ _ _ _ _ _ I1]; rfl
  have KB := Lib.hid (h.below hB)
  have XL := Lib.hid xl
  have XA : Hid (InA W1 x ax) := Lib.hid (hx.below hB)
  clear hx xl h I0 I1 hB hsz
  have g4 : 3 ≤ n1 := GE.out.2.2.1 rfl
  obtain ⟨gx, ox, rfl, kx⟩ := XA.out (by intro e; have := XL.out; rw [e, List.length_nil] at this; omega)
  have r0 := kx 0 (by rw [XL.out]; omega)
  rw [Nat.add_zero] at r0
  obtain ⟨h0, hh0⟩ : ∃ h0, x.getD 0 0 = h0 := ⟨_, rfl⟩
  have l0 := LX.out 0 (by omega)
  rw [hh0] at r0 l0
  have H0 := Lib.hid hh0
  clear hh0
  have r1 := kx 1 (by rw [XL.out]; omega)
  obtain ⟨h1, hh1⟩ : ∃ h1, x.getD 1 0 = h1 := ⟨_, rfl⟩
  have l1 := LX.out 1 (by omega)
  rw [hh1] at r1 l1
  have H1 := Lib.hid hh1
  clear hh1
  have wn : IntKind.i64.wrap ((n1 : Int) - 3) = (n1 : Int) - 3 := wrap_in (by omega) (by omega)
  have AN : Hid (z = ((decide (0 ≤ h0) && decide (h0 ≤ (n1 : Int) - 3)) && (x.getD (2 + h0.toNat) 0 == h1))) := Lib.hid (by rw [← HZ.out]; show ((decide (0 ≤ x.getD 0 0) && decide (x.getD 0 0 ≤ (x.length : Int) - 3)) && x.getD (2 + (x.getD 0 0).toNat) 0 == x.getD 1 0) = _; rw [H0.out, H1.out, XL.out])
  have n0 : 0 < n1 := by omega
  have n0i : (0 : Int) < (n1 : Int) := by omega
  have n1' : 1 < n1 := by omega
  have n1i : (1 : Int) < (n1 : Int) := by omega
  by_cases b1 : 0 ≤ h0
  · by_cases b2 : h0 ≤ (n1 : Int) - 3
    · obtain ⟨u, rfl⟩ : ∃ u : Nat, h0 = (u : Int) := ⟨h0.toNat, by omega⟩
      have ru := kx (2 + u) (by rw [XL.out]; omega)
      obtain ⟨y, hy⟩ : ∃ y, x.getD (2 + u) 0 = y := ⟨_, rfl⟩
      have un : 2 + u < n1 := by omega
      have uni : (2 : Int) + (u : Int) < (n1 : Int) := by omega
      have uz : (0 : Int) ≤ 2 + (u : Int) := by omega
      have ut : ((2 : Int) + (u : Int)).toNat = 2 + u := by omega
      have wu : IntKind.i64.wrap ((2 : Int) + (u : Int)) = (2 : Int) + (u : Int) := wrap_in (by omega) (by omega)
      rw [Int.toNat_natCast, hy, decide_eq_true b1, decide_eq_true b2] at AN
      rw [hy] at ru
      clear hy kx l0 l1
      go_enter Tryz.func52, Tryz.ntmps52
      go_upto_region 9 with fail
      refine Rg.s0 26 [] fun WD DW => ?_
      refine Rg.t 0 ?_
      refine Rg.t 1 ?_
      refine Rg.t 2 ?_
      refine Rg.t 3 ?_
      refine Rg.t 4 ?_
      go_simp
      refine Rg.t 5 ?_
      refine Rg.t 6 ?_
      refine Rg.t 7 ?_
      refine Rg.t 8 ?_
      refine Rg.t 9 ?_
      refine Rg.t 10 ?_
      refine Rg.t 11 ?_
      refine Rg.t 12 ?_
      refine Rg.t 13 ?_
      go_simp
      refine Rg.t 14 ?_
      refine Rg.t 15 ?_
      refine Rg.t 16 ?_
      refine Rg.t 17 ?_
      refine Rg.t 18 ?_
      refine Rg.t 19 ?_
      refine Rg.t 20 ?_
      refine Rg.t 21 ?_
      refine Rg.t 22 ?_
      refine Rg.t 23 ?_
      refine Rg.t 24 ?_
      refine Rg.t 25 ?_
      refine Rg.l1 ?_
      go_simp
      go_wp2_with fail
      go_ret
      exact ⟨by rw [AN.out]; rfl, over B1.out DW⟩
    · rw [decide_eq_true b1, decide_eq_false b2] at AN
      clear kx l0 l1
      go_enter Tryz.func52, Tryz.ntmps52
      go_upto_region 9 with fail
      refine Rg.s0 26 [] fun WD DW => ?_
      refine Rg.t 0 ?_
      refine Rg.t 1 ?_
      refine Rg.t 2 ?_
      refine Rg.t 3 ?_
      refine Rg.t 4 ?_
      go_simp
      refine Rg.t 5 ?_
      refine Rg.t 6 ?_
      refine Rg.t 7 ?_
      refine Rg.t 8 ?_
      refine Rg.t 9 ?_
      refine Rg.t 10 ?_
      refine Rg.t 11 ?_
      refine Rg.t 12 ?_
      refine Rg.t 13 ?_
      go_simp
      refine Rg.tx 14 ?_
      refine Rg.tx 15 ?_
      refine Rg.tx 16 ?_
      refine Rg.tx 17 ?_
      refine Rg.tx 18 ?_
      refine Rg.tx 19 ?_
      refine Rg.tx 20 ?_
      refine Rg.tx 21 ?_
      refine Rg.tx 22 ?_
      refine Rg.tx 23 ?_
      refine Rg.tx 24 ?_
      refine Rg.t 25 ?_
      refine Rg.l1 ?_
      go_simp
      go_wp2_with fail
      go_ret
      exact ⟨by rw [AN.out]; rfl, over B1.out DW⟩
  · rw [decide_eq_false b1] at AN
    clear kx l0 l1
    go_enter Tryz.func52, Tryz.ntmps52
    go_upto_region 9 with fail
    refine Rg.s0 26 [] fun WD DW => ?_
    refine Rg.t 0 ?_
    refine Rg.t 1 ?_
    refine Rg.t 2 ?_
    refine Rg.t 3 ?_
    refine Rg.t 4 ?_
    go_simp
    refine Rg.tx 5 ?_
    refine Rg.tx 6 ?_
    refine Rg.tx 7 ?_
    refine Rg.tx 8 ?_
    refine Rg.tx 9 ?_
    refine Rg.tx 10 ?_
    refine Rg.tx 11 ?_
    refine Rg.t 12 ?_
    refine Rg.t 13 ?_
    go_simp
    refine Rg.tx 14 ?_
    refine Rg.tx 15 ?_
    refine Rg.tx 16 ?_
    refine Rg.tx 17 ?_
    refine Rg.tx 18 ?_
    refine Rg.tx 19 ?_
    refine Rg.tx 20 ?_
    refine Rg.tx 21 ?_
    refine Rg.tx 22 ?_
    refine Rg.tx 23 ?_
    refine Rg.tx 24 ?_
    refine Rg.t 25 ?_
    refine Rg.l1 ?_
    go_simp
    go_wp2_with fail
    go_ret
    exact ⟨by rw [AN.out]; rfl, over B1.out DW⟩
theorem hp9_any {w : World} {rel bd : Int} {V F D : List Int} {T : List (List Int)} {x : List Int} {a1 a2 a3 a6 ax : Option Addr} {n1 c1 n2 c2 n3 c3 n6 c6 cx : Nat} (h : Ka w ⟨9, V, F, D, rel, bd, T⟩ a1 n1 c1 a2 n2 c2 a3 n3 c3 a6 n6 c6) (hx : InA w x ax) (hxb : ∀ b, ax.map (·.block) = some b → b < w.heap.size) (xl : x.length = n1) (hc : n1 ≤ cx) (hcu : cx ≤ 9223372036854775807) (hok : Hok 9 rel bd F D T n1) (lx : ∀ i, i < n1 → -16384 ≤ x.getD i 0 ∧ x.getD i 0 ≤ 16384) :
    Calls Tryz.prog 52 #[.agg #[.int .i64 9, .slice a1 n1 c1, .slice a2 n2 c2, .slice a3 n3 c3, .int .i64 rel, .int .i64 bd, .slice a6 n6 c6], .slice ax n1 cx] w fun e w' => e = .returned (.bool (hoF 9 rel bd F D T x)) ∧ Below w.heap.size w w' := by
  obtain ⟨z, hz⟩ : ∃ z : Bool, hoF 9 rel bd F D T x = z := ⟨_, rfl⟩
  have HZ := Lib.hid hz
  rw [hz]
  clear hz
  have GE := Lib.hid (ar_ge hok.hk hok.ar)
  have n16 := hok.le
  have OK := Lib.hid hok
  have LX := Lib.hid lx
  have HK := Lib.hid h
  have HXB := Lib.hid hxb
  clear hok lx hxb
  obtain ⟨W1, hW1⟩ : ∃ W1, (w.alloc (.cells #[.int .i64 9, .slice a1 n1 c1, .slice a2 n2 c2, .slice a3 n3 c3, .int .i64 rel, .int .i64 bd, .slice a6 n6 c6] 33)).alloc (.cells #[.slice ax n1 cx] 30) = W1 := ⟨_, rfl⟩
  have Z := alloc2 w (.cells #[.int .i64 9, .slice a1 n1 c1, .slice a2 n2 c2, .slice a3 n3 c3, .int .i64 rel, .int .i64 bd, .slice a6 n6 c6] 33) (.cells #[.slice ax n1 cx] 30)
  rw [hW1] at Z
  obtain ⟨I0, I1, hB, hsz⟩ := Z
  have SZ := Lib.hid hsz
  have B1 := Lib.hid hB
  have p0 : W1.cell? ⟨w.heap.size, 0, none⟩ = some (.int .i64 9) := by rw [cell_of_row _ _ _ _ _ _ I0]; rfl
  have p1 : W1.cell? ⟨w.heap.size, 1, none⟩ = some (.slice a1 n1 c1) := by rw [cell_of_row _ _ _ _ _ _ I0]; rfl
  have p2 : W1.cell? ⟨w.heap.size, 2, none⟩ = some (.slice a2 n2 c2) := by rw [cell_of_row _ _ _ _ _ _ I0]; rfl
  have p3 : W1.cell? ⟨w.heap.size, 3, none⟩ = some (.slice a3 n3 c3) := by rw [cell_of_row _ _ _ _ _ _ I0]; rfl
  have p4 : W1.cell? ⟨w.heap.size, 4, none⟩ = some (.int .i64 rel) := by rw [cell_of_row _ _ _ _ _ _ I0]; rfl
  have p5 : W1.cell? ⟨w.heap.size, 5, none⟩ = some (.int .i64 bd) := by rw [cell_of_row _ _ _ _ _ _ I0]; rfl
  have p6 : W1.cell? ⟨w.heap.size, 6, none⟩ = some (.slice a6 n6 c6) := by rw [cell_of_row _ _ _ _ _ _ I0]; rfl
  have q0 : W1.cell? ⟨w.heap.size + 1, 0, none⟩ = some (.slice ax n1 cx) := by rw [cell_of_row _ _ _ _ _ _ I1]; rfl
  have KB := Lib.hid (h.below hB)
  have XL := Lib.hid xl
  have XA : Hid (InA W1 x ax) := Lib.hid (hx.below hB)
  clear hx xl h I0 I1 hB hsz
  have FN : Hid (F.length = n1) := Lib.hid (by have := OK.out.co.1; simp [coF] at this; omega)
  have DN : Hid (D.length = n1) := Lib.hid (by have := OK.out.co.2; simpa using this)
  have E2 : n2 = n1 := by have h1 : F.length = n2 := HK.out.rf.e; have h2 := FN.out; omega
  subst E2
  have E3 : n3 = n2 := by have h1 : D.length = n3 := HK.out.rd.e; have h2 := DN.out; omega
  subst E3
  have LD : Hid (LdOk F D x n3) := Lib.hid ⟨FN.out, DN.out, XL.out, n16, fun i hi => OK.out.f i (by rw [FN.out]; exact hi), fun i hi => OK.out.d i (by rw [DN.out]; exact hi), LX.out⟩
  have FI := Lib.hid (loads86_any (k := 9) (rel := rel) (bd := bd) (a1 := a1) (n1 := n3) (c1 := c1) (a6 := a6) (n6 := n6) (c6 := c6) KB.out.f KB.out.d XA.out LD.out KB.out.rf.l KB.out.rd.l hc)
  have EZ : Hid (ldF F D x bd n3 = z) := Lib.hid (by rw [← HZ.out, ← XL.out]; rfl)
  rw [EZ.out] at FI
  go_enter Tryz.func52, Tryz.ntmps52
  go_wp2_with (go_at_call 86; refine FI.out.mono ?_; rintro e w9 ⟨rfl, hb⟩; have B9 := Lib.hid hb; clear hb)
  go_ret
  exact ⟨rfl, over B1.out B9.out⟩
theorem hp5_any {w : World} {rel bd : Int} {V F D : List Int} {T : List (List Int)} {x : List Int} {a1 a2 a3 a6 ax : Option Addr} {n1 c1 n2 c2 n3 c3 n6 c6 cx : Nat} (h : Ka w ⟨5, V, F, D, rel, bd, T⟩ a1 n1 c1 a2 n2 c2 a3 n3 c3 a6 n6 c6) (hx : InA w x ax) (hxb : ∀ b, ax.map (·.block) = some b → b < w.heap.size) (xl : x.length = n1) (hc : n1 ≤ cx) (hcu : cx ≤ 9223372036854775807) (hok : Hok 5 rel bd F D T n1) (lx : ∀ i, i < n1 → -16384 ≤ x.getD i 0 ∧ x.getD i 0 ≤ 16384) :
    Calls Tryz.prog 52 #[.agg #[.int .i64 5, .slice a1 n1 c1, .slice a2 n2 c2, .slice a3 n3 c3, .int .i64 rel, .int .i64 bd, .slice a6 n6 c6], .slice ax n1 cx] w fun e w' => e = .returned (.bool (hoF 5 rel bd F D T x)) ∧ Below w.heap.size w w' := by
  obtain ⟨z, hz⟩ : ∃ z : Bool, hoF 5 rel bd F D T x = z := ⟨_, rfl⟩
  have HZ := Lib.hid hz
  rw [hz]
  clear hz
  have GE := Lib.hid (ar_ge hok.hk hok.ar)
  have n16 := hok.le
  have OK := Lib.hid hok
  have LX := Lib.hid lx
  have HK := Lib.hid h
  have HXB := Lib.hid hxb
  clear hok lx hxb
  obtain ⟨W1, hW1⟩ : ∃ W1, (w.alloc (.cells #[.int .i64 5, .slice a1 n1 c1, .slice a2 n2 c2, .slice a3 n3 c3, .int .i64 rel, .int .i64 bd, .slice a6 n6 c6] 33)).alloc (.cells #[.slice ax n1 cx] 30) = W1 := ⟨_, rfl⟩
  have Z := alloc2 w (.cells #[.int .i64 5, .slice a1 n1 c1, .slice a2 n2 c2, .slice a3 n3 c3, .int .i64 rel, .int .i64 bd, .slice a6 n6 c6] 33) (.cells #[.slice ax n1 cx] 30)
  rw [hW1] at Z
  obtain ⟨I0, I1, hB, hsz⟩ := Z
  have SZ := Lib.hid hsz
  have B1 := Lib.hid hB
  have p0 : W1.cell? ⟨w.heap.size, 0, none⟩ = some (.int .i64 5) := by rw [cell_of_row _ _ _ _ _ _ I0]; rfl
  have p1 : W1.cell? ⟨w.heap.size, 1, none⟩ = some (.slice a1 n1 c1) := by rw [cell_of_row _ _ _ _ _ _ I0]; rfl
  have p2 : W1.cell? ⟨w.heap.size, 2, none⟩ = some (.slice a2 n2 c2) := by rw [cell_of_row _ _ _ _ _ _ I0]; rfl
  have p3 : W1.cell? ⟨w.heap.size, 3, none⟩ = some (.slice a3 n3 c3) := by rw [cell_of_row _ _ _ _ _ _ I0]; rfl
  have p4 : W1.cell? ⟨w.heap.size, 4, none⟩ = some (.int .i64 rel) := by rw [cell_of_row _ _ _ _ _ _ I0]; rfl
  have p5 : W1.cell? ⟨w.heap.size, 5, none⟩ = some (.int .i64 bd) := by rw [cell_of_row _ _ _ _ _ _ I0]; rfl
  have p6 : W1.cell? ⟨w.heap.size, 6, none⟩ = some (.slice a6 n6 c6) := by rw [cell_of_row _ _ _ _ _ _ I0]; rfl
  have q0 : W1.cell? ⟨w.heap.size + 1, 0, none⟩ = some (.slice ax n1 cx) := by rw [cell_of_row _ _ _ _ _ _ I1]; rfl
  have KB := Lib.hid (h.below hB)
  have XL := Lib.hid xl
  have XA : Hid (InA W1 x ax) := Lib.hid (hx.below hB)
  clear hx xl h I0 I1 hB hsz
  have CO := Lib.hid (con82_any KB.out.t KB.out.rt q0 XA.out XL.out)
  have EZ : Hid (T.contains x = z) := Lib.hid HZ.out
  rw [EZ.out] at CO
  go_enter Tryz.func52, Tryz.ntmps52
  go_wp2_with (go_at_call 81; refine CO.out.mono ?_; rintro e w9 ⟨rfl, hb⟩; have B9 := Lib.hid hb; clear hb)
  go_ret
  exact ⟨rfl, over B1.out B9.out⟩
theorem hp7_any {w : World} {rel bd : Int} {V F D : List Int} {T : List (List Int)} {x : List Int} {a1 a2 a3 a6 ax : Option Addr} {n1 c1 n2 c2 n3 c3 n6 c6 cx : Nat} (h : Ka w ⟨7, V, F, D, rel, bd, T⟩ a1 n1 c1 a2 n2 c2 a3 n3 c3 a6 n6 c6) (hx : InA w x ax) (hxb : ∀ b, ax.map (·.block) = some b → b < w.heap.size) (xl : x.length = n1) (hc : n1 ≤ cx) (hcu : cx ≤ 9223372036854775807) (hok : Hok 7 rel bd F D T n1) (lx : ∀ i, i < n1 → -16384 ≤ x.getD i 0 ∧ x.getD i 0 ≤ 16384) :
    Calls Tryz.prog 52 #[.agg #[.int .i64 7, .slice a1 n1 c1, .slice a2 n2 c2, .slice a3 n3 c3, .int .i64 rel, .int .i64 bd, .slice a6 n6 c6], .slice ax n1 cx] w fun e w' => e = .returned (.bool (hoF 7 rel bd F D T x)) ∧ Below w.heap.size w w' := by
  obtain ⟨z, hz⟩ : ∃ z : Bool, hoF 7 rel bd F D T x = z := ⟨_, rfl⟩
  have HZ := Lib.hid hz
  rw [hz]
  clear hz
  have GE := Lib.hid (ar_ge hok.hk hok.ar)
  have n16 := hok.le
  have OK := Lib.hid hok
  have LX := Lib.hid lx
  have HK := Lib.hid h
  have HXB := Lib.hid hxb
  clear hok lx hxb
  obtain ⟨W1, hW1⟩ : ∃ W1, (w.alloc (.cells #[.int .i64 7, .slice a1 n1 c1, .slice a2 n2 c2, .slice a3 n3 c3, .int .i64 rel, .int .i64 bd, .slice a6 n6 c6] 33)).alloc (.cells #[.slice ax n1 cx] 30) = W1 := ⟨_, rfl⟩
  have Z := alloc2 w (.cells #[.int .i64 7, .slice a1 n1 c1, .slice a2 n2 c2, .slice a3 n3 c3, .int .i64 rel, .int .i64 bd, .slice a6 n6 c6] 33) (.cells #[.slice ax n1 cx] 30)
  rw [hW1] at Z
  obtain ⟨I0, I1, hB, hsz⟩ := Z
  have SZ := Lib.hid hsz
  have B1 := Lib.hid hB
  have p0 : W1.cell? ⟨w.heap.size, 0, none⟩ = some (.int .i64 7) := by rw [cell_of_row _ _ _ _ _ _ I0]; rfl
  have p1 : W1.cell? ⟨w.heap.size, 1, none⟩ = some (.slice a1 n1 c1) := by rw [cell_of_row _ _ _ _ _ _ I0]; rfl
  have p2 : W1.cell? ⟨w.heap.size, 2, none⟩ = some (.slice a2 n2 c2) := by rw [cell_of_row _ _ _ _ _ _ I0]; rfl
  have p3 : W1.cell? ⟨w.heap.size, 3, none⟩ = some (.slice a3 n3 c3) := by rw [cell_of_row _ _ _ _ _ _ I0]; rfl
  have p4 : W1.cell? ⟨w.heap.size, 4, none⟩ = some (.int .i64 rel) := by rw [cell_of_row _ _ _ _ _ _ I0]; rfl
  have p5 : W1.cell? ⟨w.heap.size, 5, none⟩ = some (.int .i64 bd) := by rw [cell_of_row _ _ _ _ _ _ I0]; rfl
  have p6 : W1.cell? ⟨w.heap.size, 6, none⟩ = some (.slice a6 n6 c6) := by rw [cell_of_row _ _ _ _ _ _ I0]; rfl
  have q0 : W1.cell? ⟨w.heap.size + 1, 0, none⟩ = some (.slice ax n1 cx) := by rw [cell_of_row _ _ _ _ _ _ I1]; rfl
  have KB := Lib.hid (h.below hB)
  have XL := Lib.hid xl
  have XA : Hid (InA W1 x ax) := Lib.hid (hx.below hB)
  clear hx xl h I0 I1 hB hsz
  have g7 : 2 ≤ n1 := GE.out.2.2.2.2.1 rfl
  have hb := OK.out.b.2.2.2 rfl
  obtain ⟨gx, ox, rfl, kx⟩ := XA.out (by intro e; have := XL.out; rw [e, List.length_nil] at this; omega)
  obtain ⟨m, rfl⟩ : ∃ m, n1 = m + 1 := ⟨n1 - 1, by omega⟩
  have XD : Hid (∀ i, i < m → W1.cell? ⟨gx, ox + 1 + i, none⟩ = some (.int .i64 (x.getD (i + 1) 0))) := Lib.hid (fun i hi => by
    rw [Nat.add_assoc, Nat.add_comm 1 i]
    exact kx (i + 1) (by rw [XL.out]; omega))
  have r0 := kx 0 (by rw [XL.out]; omega)
  rw [Nat.add_zero] at r0
  obtain ⟨h0, hh0⟩ : ∃ h0, x.getD 0 0 = h0 := ⟨_, rfl⟩
  have l0 := LX.out 0 (by omega)
  rw [hh0] at r0 l0
  have H0 := Lib.hid hh0
  clear hh0
  have cx1 : 1 ≤ cx := by omega
  have cx1i : (1 : Int) ≤ (cx : Int) := by omega
  have cxn : ¬ cx = 1 := by omega
  have m1 : (1 : Int) ≤ (m : Int) + 1 := by omega
  have AN : Hid (z = (h0 == beU bd x m)) := Lib.hid (by rw [← HZ.out]; show (x.getD 0 0 == beU bd x (x.length - 1)) = _; rw [H0.out, XL.out, Nat.add_sub_cancel])
  clear l0 kx
  rcases hb with rfl | rfl
  · have MI := Lib.hid (fun (w9 : World) (hb : Below W1.heap.size W1 w9) => min84_any (w := w9) (x := x) (gx := gx) (ox := ox + 1) (n := m) (cx := cx - 1) (fun i hi => cell_later hb (Nat.le_refl _) (XD.out i hi)) (by omega) (by omega))
    go_enter Tryz.func52, Tryz.ntmps52
    go_upto_region 16 with fail
    refine Rg.s0 7 [] fun WD DW => ?_
    refine Rg.t 0 ?_
    refine Rg.t 1 ?_
    refine Rg.t 2 ?_
    refine Rg.t 3 ?_
    refine Rg.t 4 ?_
    refine Rg.c1 5 fun K' hK => ?_
    go_simp
    go_at_call 84
    refine (MI.out _ DW).mono ?_
    rintro e w2 ⟨rfl, hw⟩
    have hw := hw.symm
    subst hw
    refine Rg.e1 hK DW ?_
    clear hK K'
    refine Rg.t 6 ?_
    refine Rg.l1 ?_
    go_simp
    go_wp2_with fail
    go_ret
    exact ⟨by rw [AN.out]; rfl, over B1.out DW⟩
  · have MI := Lib.hid (fun (w9 : World) (hb : Below W1.heap.size W1 w9) => max85_any (w := w9) (x := x) (gx := gx) (ox := ox + 1) (n := m) (cx := cx - 1) (fun i hi => cell_later hb (Nat.le_refl _) (XD.out i hi)) (by omega) (by omega))
    go_enter Tryz.func52, Tryz.ntmps52
    go_upto_region 17 with fail
    refine Rg.s0 7 [] fun WD DW => ?_
    refine Rg.t 0 ?_
    refine Rg.t 1 ?_
    refine Rg.t 2 ?_
    refine Rg.t 3 ?_
    refine Rg.t 4 ?_
    refine Rg.c1 5 fun K' hK => ?_
    go_simp
    go_at_call 85
    refine (MI.out _ DW).mono ?_
    rintro e w2 ⟨rfl, hw⟩
    have hw := hw.symm
    subst hw
    refine Rg.e1 hK DW ?_
    clear hK K'
    refine Rg.t 6 ?_
    refine Rg.l1 ?_
    go_simp
    go_wp2_with fail
    go_ret
    exact ⟨by rw [AN.out]; rfl, over B1.out DW⟩
def Cn8L (bd : Int) (x : List Int) (m : Nat) (w : World) (v5 v115 : Value) (wr : World) : Prop := ∃ i : Nat, i ≤ m ∧ v115 = .int .i64 (i : Int) ∧ v5 = .int .i64 (cnU bd x i) ∧ w = wr
theorem hp8_any {w : World} {rel bd : Int} {V F D : List Int} {T : List (List Int)} {x : List Int} {a1 a2 a3 a6 ax : Option Addr} {n1 c1 n2 c2 n3 c3 n6 c6 cx : Nat} (h : Ka w ⟨8, V, F, D, rel, bd, T⟩ a1 n1 c1 a2 n2 c2 a3 n3 c3 a6 n6 c6) (hx : InA w x ax) (hxb : ∀ b, ax.map (·.block) = some b → b < w.heap.size) (xl : x.length = n1) (hc : n1 ≤ cx) (hcu : cx ≤ 9223372036854775807) (hok : Hok 8 rel bd F D T n1) (lx : ∀ i, i < n1 → -16384 ≤ x.getD i 0 ∧ x.getD i 0 ≤ 16384) :
    Calls Tryz.prog 52 #[.agg #[.int .i64 8, .slice a1 n1 c1, .slice a2 n2 c2, .slice a3 n3 c3, .int .i64 rel, .int .i64 bd, .slice a6 n6 c6], .slice ax n1 cx] w fun e w' => e = .returned (.bool (hoF 8 rel bd F D T x)) ∧ Below w.heap.size w w' := by
  obtain ⟨z, hz⟩ : ∃ z : Bool, hoF 8 rel bd F D T x = z := ⟨_, rfl⟩
  have HZ := Lib.hid hz
  rw [hz]
  clear hz
  have GE := Lib.hid (ar_ge hok.hk hok.ar)
  have n16 := hok.le
  have OK := Lib.hid hok
  have LX := Lib.hid lx
  have HK := Lib.hid h
  have HXB := Lib.hid hxb
  clear hok lx hxb
  obtain ⟨W1, hW1⟩ : ∃ W1, (w.alloc (.cells #[.int .i64 8, .slice a1 n1 c1, .slice a2 n2 c2, .slice a3 n3 c3, .int .i64 rel, .int .i64 bd, .slice a6 n6 c6] 33)).alloc (.cells #[.slice ax n1 cx] 30) = W1 := ⟨_, rfl⟩
  have Z := alloc2 w (.cells #[.int .i64 8, .slice a1 n1 c1, .slice a2 n2 c2, .slice a3 n3 c3, .int .i64 rel, .int .i64 bd, .slice a6 n6 c6] 33) (.cells #[.slice ax n1 cx] 30)
  rw [hW1] at Z
  obtain ⟨I0, I1, hB, hsz⟩ := Z
  have SZ := Lib.hid hsz
  have B1 := Lib.hid hB
  have p0 : W1.cell? ⟨w.heap.size, 0, none⟩ = some (.int .i64 8) := by rw [cell_of_row _ _ _ _ _ _ I0]; rfl
  have p1 : W1.cell? ⟨w.heap.size, 1, none⟩ = some (.slice a1 n1 c1) := by rw [cell_of_row _ _ _ _ _ _ I0]; rfl
  have p2 : W1.cell? ⟨w.heap.size, 2, none⟩ = some (.slice a2 n2 c2) := by rw [cell_of_row _ _ _ _ _ _ I0]; rfl
  have p3 : W1.cell? ⟨w.heap.size, 3, none⟩ = some (.slice a3 n3 c3) := by rw [cell_of_row _ _ _ _ _ _ I0]; rfl
  have p4 : W1.cell? ⟨w.heap.size, 4, none⟩ = some (.int .i64 rel) := by rw [cell_of_row _ _ _ _ _ _ I0]; rfl
  have p5 : W1.cell? ⟨w.heap.size, 5, none⟩ = some (.int .i64 bd) := by rw [cell_of_row _ _ _ _ _ _ I0]; rfl
  have p6 : W1.cell? ⟨w.heap.size, 6, none⟩ = some (.slice a6 n6 c6) := by rw [cell_of_row _ _ _ _ _ _ I0]; rfl
  have q0 : W1.cell? ⟨w.heap.size + 1, 0, none⟩ = some (.slice ax n1 cx) := by rw [cell_of_row _ _ _ _ _ _ I1]; rfl
  have KB := Lib.hid (h.below hB)
  have XL := Lib.hid xl
  have XA : Hid (InA W1 x ax) := Lib.hid (hx.below hB)
  clear hx xl h I0 I1 hB hsz
  have g8 : 2 ≤ n1 := GE.out.2.2.2.2.2.1 rfl
  obtain ⟨gx, ox, rfl, kx⟩ := XA.out (by intro e; have := XL.out; rw [e, List.length_nil] at this; omega)
  obtain ⟨m, rfl⟩ : ∃ m, n1 = m + 1 := ⟨n1 - 1, by omega⟩
  have XD : Hid (∀ i, i < m → W1.cell? ⟨gx, ox + 1 + i, none⟩ = some (.int .i64 (x.getD (i + 1) 0))) := Lib.hid (fun i hi => by
    rw [Nat.add_assoc, Nat.add_comm 1 i]
    exact kx (i + 1) (by rw [XL.out]; omega))
  have r0 := kx 0 (by rw [XL.out]; omega)
  rw [Nat.add_zero] at r0
  obtain ⟨h0, hh0⟩ : ∃ h0, x.getD 0 0 = h0 := ⟨_, rfl⟩
  have l0 := LX.out 0 (by omega)
  rw [hh0] at r0 l0
  have H0 := Lib.hid hh0
  clear hh0
  have cx1 : 1 ≤ cx := by omega
  have cx1i : (1 : Int) ≤ (cx : Int) := by omega
  have cxn : ¬ cx = 1 := by omega
  have m1 : (1 : Int) ≤ (m : Int) + 1 := by omega
  have AN : Hid (z = (h0 == cnU bd x m)) := Lib.hid (by rw [← HZ.out]; show (x.getD 0 0 == cnU bd x (x.length - 1)) = _; rw [H0.out, XL.out, Nat.add_sub_cancel])
  clear l0 kx
  go_enter Tryz.func52, Tryz.ntmps52
  go_wp2_with fail
  go_loopw [5, 115] (fun v5 v115 wr => Cn8L bd x m W1 v5 v115 wr) (fun v5 v115 _ => m - (intOf v115).toNat)
  case atStart => exact ⟨0, Nat.zero_le _, rfl, rfl, rfl⟩
  obtain ⟨i, hi, rfl, rfl, rfl⟩ := hrel
  have cb := cn_le (bd := bd) (x := x) i
  have EC : Hid (cnU bd x (i + 1) = cnU bd x i + (if x.getD (i + 1) 0 = bd then 1 else 0)) := Lib.hid rfl
  obtain ⟨s, hs⟩ : ∃ s, cnU bd x i = s := ⟨_, rfl⟩
  rw [hs] at cb EC
  have HS := Lib.hid hs
  rw [hs]
  clear hs
  have wi : IntKind.i64.wrap ((i : Int) + 1) = (i : Int) + 1 := wrap_in (by omega) (by omega)
  have wc : IntKind.i64.wrap (s + 1) = s + 1 := wrap_in (by omega) (by omega)
  clear cb
  by_cases ilt : i < m
  · have rm := XD.out i ilt
    obtain ⟨y, hy⟩ : ∃ y, x.getD (i + 1) 0 = y := ⟨_, rfl⟩
    rw [hy] at rm EC
    clear hy
    by_cases q : y = bd
    · have E : Hid (cnU bd x (i + 1) = s + 1) := Lib.hid (by rw [EC.out, if_pos q])
      have dq : (y == bd) = true := by simpa using q
      clear q
      go_wp2_with fail
      go_roundw
      case rel => exact ⟨i + 1, by omega, by go_num, by rw [E.out], rfl⟩
      simp [intOf]; omega
    · have E : Hid (cnU bd x (i + 1) = s) := Lib.hid (by rw [EC.out, if_neg q]; omega)
      have dq : (y == bd) = false := by simpa using q
      go_wp2_with fail
      go_roundw
      case rel => exact ⟨i + 1, by omega, by go_num, by rw [E.out], rfl⟩
      simp [intOf]; omega
  · obtain rfl : m = i := by omega
    go_wp2_with fail
    go_ret
    exact ⟨by rw [AN.out, HS.out]; rfl, B1.out⟩
theorem hp3_any {w : World} {rel bd : Int} {V F D : List Int} {T : List (List Int)} {x : List Int} {a1 a2 a3 a6 ax : Option Addr} {n1 c1 n2 c2 n3 c3 n6 c6 cx : Nat} (h : Ka w ⟨3, V, F, D, rel, bd, T⟩ a1 n1 c1 a2 n2 c2 a3 n3 c3 a6 n6 c6) (hx : InA w x ax) (hxb : ∀ b, ax.map (·.block) = some b → b < w.heap.size) (xl : x.length = n1) (hc : n1 ≤ cx) (hcu : cx ≤ 9223372036854775807) (hok : Hok 3 rel bd F D T n1) (lx : ∀ i, i < n1 → -16384 ≤ x.getD i 0 ∧ x.getD i 0 ≤ 16384) :
    Calls Tryz.prog 52 #[.agg #[.int .i64 3, .slice a1 n1 c1, .slice a2 n2 c2, .slice a3 n3 c3, .int .i64 rel, .int .i64 bd, .slice a6 n6 c6], .slice ax n1 cx] w fun e w' => e = .returned (.bool (hoF 3 rel bd F D T x)) ∧ Below w.heap.size w w' := by
  obtain ⟨z, hz⟩ : ∃ z : Bool, hoF 3 rel bd F D T x = z := ⟨_, rfl⟩
  have HZ := Lib.hid hz
  rw [hz]
  clear hz
  have GE := Lib.hid (ar_ge hok.hk hok.ar)
  have n16 := hok.le
  have OK := Lib.hid hok
  have LX := Lib.hid lx
  have HK := Lib.hid h
  have HXB := Lib.hid hxb
  clear hok lx hxb
  obtain ⟨W1, hW1⟩ : ∃ W1, (w.alloc (.cells #[.int .i64 3, .slice a1 n1 c1, .slice a2 n2 c2, .slice a3 n3 c3, .int .i64 rel, .int .i64 bd, .slice a6 n6 c6] 33)).alloc (.cells #[.slice ax n1 cx] 30) = W1 := ⟨_, rfl⟩
  have Z := alloc2 w (.cells #[.int .i64 3, .slice a1 n1 c1, .slice a2 n2 c2, .slice a3 n3 c3, .int .i64 rel, .int .i64 bd, .slice a6 n6 c6] 33) (.cells #[.slice ax n1 cx] 30)
  rw [hW1] at Z
  obtain ⟨I0, I1, hB, hsz⟩ := Z
  have SZ := Lib.hid hsz
  have B1 := Lib.hid hB
  have p0 : W1.cell? ⟨w.heap.size, 0, none⟩ = some (.int .i64 3) := by rw [cell_of_row _ _ _ _ _ _ I0]; rfl
  have p1 : W1.cell? ⟨w.heap.size, 1, none⟩ = some (.slice a1 n1 c1) := by rw [cell_of_row _ _ _ _ _ _ I0]; rfl
  have p2 : W1.cell? ⟨w.heap.size, 2, none⟩ = some (.slice a2 n2 c2) := by rw [cell_of_row _ _ _ _ _ _ I0]; rfl
  have p3 : W1.cell? ⟨w.heap.size, 3, none⟩ = some (.slice a3 n3 c3) := by rw [cell_of_row _ _ _ _ _ _ I0]; rfl
  have p4 : W1.cell? ⟨w.heap.size, 4, none⟩ = some (.int .i64 rel) := by rw [cell_of_row _ _ _ _ _ _ I0]; rfl
  have p5 : W1.cell? ⟨w.heap.size, 5, none⟩ = some (.int .i64 bd) := by rw [cell_of_row _ _ _ _ _ _ I0]; rfl
  have p6 : W1.cell? ⟨w.heap.size, 6, none⟩ = some (.slice a6 n6 c6) := by rw [cell_of_row _ _ _ _ _ _ I0]; rfl
  have q0 : W1.cell? ⟨w.heap.size + 1, 0, none⟩ = some (.slice ax n1 cx) := by rw [cell_of_row _ _ _ _ _ _ I1]; rfl
  have KB := Lib.hid (h.below hB)
  have XL := Lib.hid xl
  have XA : Hid (InA W1 x ax) := Lib.hid (hx.below hB)
  clear hx xl h I0 I1 hB hsz
  have XI : Hid (Sv.Ints W1.heap.size W1 (.slice ax n1 cx) x) := Lib.hid (by
    by_cases e : x = []
    · have h0 := XL.out
      rw [e, List.length_nil] at h0
      subst h0
      exact Or.inl ⟨ax, cx, rfl, e⟩
    · obtain ⟨g, o, rfl, kk⟩ := XA.out e
      refine Or.inr ⟨g, o, cx, by rw [XL.out], Nat.lt_of_lt_of_le (HXB.out g rfl) (by rw [SZ.out]; omega), fun j hj => ?_⟩
      rw [kk j hj, List.getD_eq_getElem?_getD])
  have VS : Hid (∀ w9, Calls Tryz.prog 72 #[.slice ax n1 cx] w9 fun e w' => e = .returned (.func (.func 105) #[] #[.pointer (some ⟨w9.heap.size, 0, none⟩)]) ∧ w' = w9.alloc (.cells #[.slice ax n1 cx] 30)) := Lib.hid (fun w9 => callsIn_wide.1 (Sv.values_in Fence.wide 3 trivial rfl ax n1 cx w9))
  have AN : Hid (z = ((((Lib.compact (srt x)).length : Int) == (n1 : Int)))) := Lib.hid (by
    rw [← HZ.out]
    show decide x.Nodup = _
    rw [Bool.eq_iff_iff]
    simp only [decide_eq_true_eq, beq_iff_eq]
    rw [← comp_nodup, XL.out]
    omega)
  go_enter Tryz.func52, Tryz.ntmps52
  go_upto_region 7 with fail
  refine Rg.s0 8 [] fun WD DW => ?_
  refine Rg.t 0 ?_
  refine Rg.t 5 ?_
  refine Rg.t 6 ?_
  refine Rg.c1 1 fun K' hK => ?_
  go_simp
  go_at_call 72
  refine (VS.out _).mono ?_
  rintro e w2 ⟨rfl, hw⟩
  have DA : Hid (Below WD.heap.size WD w2) := Lib.hid (by rw [hw]; exact below_new _ _)
  have IA : Hid (w2.cell? ⟨WD.heap.size, 0, none⟩ = some (.slice ax n1 cx)) := Lib.hid (by rw [hw, cell_of_row _ _ _ _ _ _ (heap_alloc_new _ _)]; rfl)
  have SA : Hid (WD.heap.size < w2.heap.size) := Lib.hid (by rw [hw, World.size_alloc]; omega)
  clear hw
  have D2 := over DW DA.out
  refine Rg.e1 hK D2 ?_
  clear hK K'
  have SS := Lib.hid (sorted_any (zs := x) (w := w2) (Bs := WD.heap.size) (sv := .slice ax n1 cx) (by rw [XL.out]; omega) SA.out IA.out (by
    rcases (XI.out.below D2) with q | ⟨b, off, cap, e, hb, kk⟩
    · exact Or.inl q
    · exact Or.inr ⟨b, off, cap, e, Nat.lt_of_lt_of_le hb D2.size, kk⟩))
  refine Rg.c1 2 fun K' hK => ?_
  go_simp
  go_at_call 71
  refine SS.out.mono ?_
  rintro e w3 ⟨sa, sc, rfl, ow, hb⟩
  have CP := Lib.hid (compact_own2 ow (by rw [XL.out]; omega) hb.size)
  have D3 := over D2 hb
  clear ow hb
  refine Rg.e1 hK D3 ?_
  clear hK K'
  refine Rg.c1 3 fun K' hK => ?_
  go_simp
  go_at_call 70
  refine CP.out.mono ?_
  rintro e w4 ⟨rfl, -, -, hb⟩
  have D4 : Below W1.heap.size W1 w4 := D3.trans (hb.mono (Nat.le_trans D2.size (Nat.le_refl _)))
  clear hb
  refine Rg.e1 hK D4 ?_
  clear hK K'
  refine Rg.t 4 ?_
  refine Rg.t 7 ?_
  refine Rg.l1 ?_
  go_simp
  go_wp2_with fail
  go_ret
  exact ⟨by rw [AN.out]; rfl, over B1.out D4⟩
theorem holds52_any {w : World} {c : Con} {x : List Int} {a1 a2 a3 a6 ax : Option Addr} {n1 c1 n2 c2 n3 c3 n6 c6 cx : Nat} (h : Ka w c a1 n1 c1 a2 n2 c2 a3 n3 c3 a6 n6 c6) (hx : InA w x ax) (hxb : ∀ b, ax.map (·.block) = some b → b < w.heap.size) (xl : x.length = n1) (hc : n1 ≤ cx) (hcu : cx ≤ 9223372036854775807) (hok : Hok c.kind c.rel c.bound c.coefs c.needs c.tuples n1) (lx : ∀ i, i < n1 → -16384 ≤ x.getD i 0 ∧ x.getD i 0 ≤ 16384) :
    Calls Tryz.prog 52 #[.agg #[.int .i64 c.kind, .slice a1 n1 c1, .slice a2 n2 c2, .slice a3 n3 c3, .int .i64 c.rel, .int .i64 c.bound, .slice a6 n6 c6], .slice ax n1 cx] w fun e w' => e = .returned (.bool (hoF c.kind c.rel c.bound c.coefs c.needs c.tuples x)) ∧ Below w.heap.size w w' := by
  obtain ⟨k, V, F, D, rel, bd, T⟩ := c
  have hk : kndF k = true := hok.hk
  rcases knd_cases hk with rfl | rfl | rfl | rfl | rfl | rfl | rfl | rfl | rfl | rfl
  · exact hp1_any h hx hxb xl hc hcu hok lx
  · exact hp2_any h hx hxb xl hc hcu hok lx
  · exact hp3_any h hx hxb xl hc hcu hok lx
  · exact hp4_any h hx hxb xl hc hcu hok lx
  · exact hp5_any h hx hxb xl hc hcu hok lx
  · exact hp6_any h hx hxb xl hc hcu hok lx
  · exact hp7_any h hx hxb xl hc hcu hok lx
  · exact hp8_any h hx hxb xl hc hcu hok lx
  · exact hp9_any h hx hxb xl hc hcu hok lx
  · exact hp10_any h hx hxb xl hc hcu hok lx
end Go.Proofs.YteiohgiecpibhaaGreat
