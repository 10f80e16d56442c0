/- Fault of the reference; form of the program. -/
import Derived.Test.YteiohgiecpibhaaGreatYa
import Derived.Test.YteiohgiecpibhaaGreatMX
set_option linter.unusedVariables false
set_option linter.unusedSimpArgs false
set_option maxRecDepth 100000
set_option maxHeartbeats 4000000
namespace Go.Proofs.YteiohgiecpibhaaGreat
open Go.RowKit Fdm

/-- The error at the variable with number i, 0 if there is none. -/
def vaS (k : Int) (V : List Int) (n : Int) (i : Nat) : Int := if V.getD i 0 < 0 ∨ n ≤ V.getD i 0 then 1 else if ((V.take i).contains (V.getD i 0) && !(decide (k = 6) && decide (i = 1))) = true then 5 else 0
def vaU (k : Int) (V : List Int) (n : Int) : Nat → Int
  | 0 => 0
  | i + 1 => if vaU k V n i = 0 then vaS k V n i else vaU k V n i
theorem vaU_stop {k n e : Int} {V : List Int} {i : Nat} (h : vaU k V n i = 0) (hs : vaS k V n i = e) (he : e ≠ 0) : ∀ m, i < m → vaU k V n m = e := by
  intro m hm
  induction m with
  | zero => omega
  | succ m ih =>
    by_cases e1 : i = m
    · subst e1; simp [vaU, h, hs]
    · have := ih (by omega); simp [vaU, this, he]
theorem vaU_go {k n : Int} {V : List Int} {i : Nat} (h : vaU k V n i = 0) (hs : vaS k V n i = 0) : vaU k V n (i + 1) = 0 := by simp [vaU, h, hs]
theorem take_has {V : List Int} {i j : Nat} {x : Int} (hj : j < i) (hi : i ≤ V.length) (e : V.getD j 0 = x) : (V.take i).contains x = true := by
  rw [List.contains_iff_mem]
  subst e
  rw [List.getD_eq_getElem?_getD, List.getElem?_eq_getElem (by omega)]
  exact List.mem_take_iff_getElem.2 ⟨j, by omega, rfl⟩
theorem take_no {V : List Int} {i : Nat} {x : Int} (hi : i ≤ V.length) (h : ∀ u, u < i → V.getD u 0 ≠ x) : (V.take i).contains x = false := by
  rw [Bool.eq_false_iff, Ne, List.contains_iff_mem]
  intro hm
  obtain ⟨j, hj, e⟩ := List.mem_take_iff_getElem.1 hm
  have := h j (by omega)
  rw [List.getD_eq_getElem?_getD, List.getElem?_eq_getElem (by omega)] at this
  exact this e
/-- The error of a constraint over n variables, by its numbers of cells. -/
def faF (k rel bd : Int) (V F D : List Int) (T : List (List Int)) (n : Int) : Int :=
  if kndF k = false then 7 else if arF k V.length = false then 3 else if vaU k V n V.length ≠ 0 then vaU k V n V.length else if foF k rel bd V.length F.length D.length T = false then 2 else if 200 < T.length then 3 else if raF k rel bd F D T = false then 1 else 0
theorem ar_le {k : Int} {n : Nat} (hk : kndF k = true) (h : arF k n = true) : n ≤ 16 := by
  rcases knd_cases hk with rfl | rfl | rfl | rfl | rfl | rfl | rfl | rfl | rfl | rfl
  all_goals (simp [arF, shF] at h; omega)
def FaL (k n : Int) (V : List Int) (W0 : World) (v : Value) (wr : World) : Prop := ∃ i : Nat, i ≤ V.length ∧ v = .int .i64 (i : Int) ∧ vaU k V n i = 0 ∧ Below W0.heap.size W0 wr
def FaM (k : Int) (V : List Int) (i : Nat) (W0 : World) (v : Value) (wr : World) : Prop := ∃ j : Nat, j ≤ i ∧ v = .int .i64 (j : Int) ∧ ((k = 6 ∧ i = 1) ∨ ∀ u, u < j → V.getD u 0 ≠ V.getD i 0) ∧ Below W0.heap.size W0 wr
theorem fault31_any {w : World} {c : Con} {a1 a2 a3 a6 : Option Addr} {n1 c1 n2 c2 n3 c3 n6 c6 : Nat} (h : Ka w c a1 n1 c1 a2 n2 c2 a3 n3 c3 a6 n6 c6) (n : Int) :
    Calls Tryz.prog 31 #[.agg #[.int .i64 c.kind, .slice a1 n1 c1, .slice a2 n2 c2, .slice a3 n3 c3, .int .i64 c.rel, .int .i64 c.bound, .slice a6 n6 c6], .int .i64 n] w fun e w' => e = .returned (.int .i64 (faF c.kind c.rel c.bound c.vars c.coefs c.needs c.tuples n)) ∧ Below w.heap.size w w' := by
  have h' := Lib.hid h
  clear h
  obtain ⟨k, V, F, D, rel, bd, T⟩ := c
  show Calls Tryz.prog 31 #[.agg #[.int .i64 k, .slice a1 n1 c1, .slice a2 n2 c2, .slice a3 n3 c3, .int .i64 rel, .int .i64 bd, .slice a6 n6 c6], .int .i64 n] w fun e w' => e = .returned (.int .i64 (faF k rel bd V F D T n)) ∧ Below w.heap.size w w'
  have VE : Hid (V.length = n1) := Lib.hid h'.out.rv.e
  have FE : Hid (F.length = n2) := Lib.hid h'.out.rf.e
  have DE : Hid (D.length = n3) := Lib.hid h'.out.rd.e
  have TE : Hid (T.length = n6) := Lib.hid h'.out.rt.e
  have V2 := Lib.hid h'.out.rv.l; have V3 := Lib.hid h'.out.rv.u
  obtain ⟨W0, hW0⟩ : ∃ W0, w.alloc (.cells #[.int .i64 k, .slice a1 n1 c1, .slice a2 n2 c2, .slice a3 n3 c3, .int .i64 rel, .int .i64 bd, .slice a6 n6 c6] 33) = W0 := ⟨_, rfl⟩
  have B0 : Hid (Below w.heap.size w W0) := by rw [← hW0]; exact Lib.hid (below_new _ _)
  have I0 : W0.heap[w.heap.size]? = some (.cells #[.int .i64 k, .slice a1 n1 c1, .slice a2 n2 c2, .slice a3 n3 c3, .int .i64 rel, .int .i64 bd, .slice a6 n6 c6] 33 (0, 0)) := by rw [← hW0]; exact heap_alloc_new _ _
  have p0 : W0.cell? ⟨w.heap.size, 0, none⟩ = some (.int .i64 k) := by rw [cell_of_row _ _ _ _ _ _ I0]; rfl
  have p1 : W0.cell? ⟨w.heap.size, 1, none⟩ = some (.slice a1 n1 c1) := by rw [cell_of_row _ _ _ _ _ _ I0]; rfl
  have p2 : W0.cell? ⟨w.heap.size, 2, none⟩ = some (.slice a2 n2 c2) := by rw [cell_of_row _ _ _ _ _ _ I0]; rfl
  have p3 : W0.cell? ⟨w.heap.size, 3, none⟩ = some (.slice a3 n3 c3) := by rw [cell_of_row _ _ _ _ _ _ I0]; rfl
  have p4 : W0.cell? ⟨w.heap.size, 4, none⟩ = some (.int .i64 rel) := by rw [cell_of_row _ _ _ _ _ _ I0]; rfl
  have p5 : W0.cell? ⟨w.heap.size, 5, none⟩ = some (.int .i64 bd) := by rw [cell_of_row _ _ _ _ _ _ I0]; rfl
  have p6 : W0.cell? ⟨w.heap.size, 6, none⟩ = some (.slice a6 n6 c6) := by rw [cell_of_row _ _ _ _ _ _ I0]; rfl
  have P0 := Lib.hid p0; have P1 := Lib.hid p1; have P2 := Lib.hid p2; have P3 := Lib.hid p3; have P4 := Lib.hid p4; have P5 := Lib.hid p5; have P6 := Lib.hid p6
  clear I0
  have KA := Lib.hid (h'.out.below B0.out)
  have W53 := Lib.hid (fun w => within53_any k 1 10 w)
  by_cases hk : kndF k = true
  · have e53 : wiF k 1 10 = true := hk
    rw [e53] at W53
    clear e53
    have W59 := Lib.hid (fun w => arity_any k (n1 : Int) hk w)
    by_cases har : arF k n1 = true
    · have h16 := ar_le hk har
      rw [har] at W59
      have E1 : Hid (faF k rel bd V F D T n = if vaU k V n n1 ≠ 0 then vaU k V n n1 else if foF k rel bd n1 n2 n3 T = false then 2 else if 200 < n6 then 3 else if raF k rel bd F D T = false then 1 else 0) := Lib.hid (by
        rw [← VE.out, ← FE.out, ← DE.out, ← TE.out]
        rw [← VE.out] at har
        simp only [faF, hk, har, Bool.true_eq_false, if_false])
      obtain ⟨z, hz⟩ : ∃ z : Int, faF k rel bd V F D T n = z := ⟨_, rfl⟩
      have HZ : Hid (z = if vaU k V n n1 ≠ 0 then vaU k V n n1 else if foF k rel bd n1 n2 n3 T = false then 2 else if 200 < n6 then 3 else if raF k rel bd F D T = false then 1 else 0) := Lib.hid (hz.symm.trans E1.out)
      rw [hz]
      clear E1 har hz
      have HK := Lib.hid hk; have H16 := Lib.hid h16
      clear hk h16
      go_enter Tryz.func31, Tryz.ntmps31
      go_wp2_with first | (go_at_call 53; refine (W53.out _).mono ?_; rintro e w9 ⟨rfl, hw⟩; have hw := hw.symm; subst hw) | (go_at_call 59; refine (W59.out _).mono ?_; rintro e w9 ⟨rfl, hw⟩; have hw := hw.symm; subst hw)
      go_loopw [5] (fun v5 wr => FaL k n V W0 v5 wr) (fun v5 _ => n1 - (intOf v5).toNat)
      case atStart => exact ⟨0, Nat.zero_le _, rfl, rfl, Below.refl _ _⟩
      obtain ⟨i, hi, rfl, hva, hB⟩ := hrel
      have HV := Lib.hid hva
      clear hva
      rw [VE.out] at hi
      replace p0 := cell_later hB (Nat.le_refl _) P0.out
      replace p1 := cell_later hB (Nat.le_refl _) P1.out
      replace p2 := cell_later hB (Nat.le_refl _) P2.out
      replace p3 := cell_later hB (Nat.le_refl _) P3.out
      replace p4 := cell_later hB (Nat.le_refl _) P4.out
      replace p5 := cell_later hB (Nat.le_refl _) P5.out
      replace p6 := cell_later hB (Nat.le_refl _) P6.out
      have HB := Lib.hid hB
      have h16 := H16.out
      by_cases hlt : i < n1
      · have wi : IntKind.i64.wrap ((i : Int) + 1) = (i : Int) + 1 := wrap_in (by omega) (by omega)
        have VA : Hid (InA wr V a1) := Lib.hid (KA.out.v.below hB)
        obtain ⟨g1, o1, rfl, kk⟩ := VA.out (by intro e; have := VE.out; rw [e] at this; simp at this; omega)
        have t0 := kk i (by rw [VE.out]; exact hlt)
        clear hB kk
        obtain ⟨x, hx⟩ : ∃ x, V.getD i 0 = x := ⟨_, rfl⟩
        rw [hx] at t0
        have HX := Lib.hid hx
        clear hx
        have LT : Hid (i < n1) := Lib.hid hlt
        by_cases x0 : x < 0
        · have E : Hid (vaU k V n n1 = 1) := vaU_stop HV.out (by simp only [vaS, HX.out]; rw [if_pos (Or.inl x0)]) (by decide) _ hlt
          go_wp2_with fail
          go_ret
          refine ⟨congrArg (fun z => Ending.returned (Value.int IntKind.i64 z)) ?_, over B0.out HB.out⟩
          rw [HZ.out]
          simp [E.out]
        · by_cases xn : n ≤ x
          · have E : Hid (vaU k V n n1 = 1) := vaU_stop HV.out (by simp only [vaS, HX.out]; rw [if_pos (Or.inr xn)]) (by decide) _ hlt
            go_wp2_with fail
            go_ret
            refine ⟨congrArg (fun z => Ending.returned (Value.int IntKind.i64 z)) ?_, over B0.out HB.out⟩
            rw [HZ.out]
            simp [E.out]
          · have X0 := Lib.hid x0; have XN := Lib.hid xn
            go_wp2_with fail
            go_loopw [6] (fun v6 wr => FaM k V i W0 v6 wr) (fun v6 _ => i - (intOf v6).toNat)
            case atStart => exact ⟨0, Nat.zero_le _, rfl, Or.inr fun u hu => absurd hu (by omega), HB.out⟩
            obtain ⟨j, hj, rfl, hall, hB⟩ := hrel
            have HA := Lib.hid hall
            clear hall t0
            replace p0 := cell_later hB (Nat.le_refl _) P0.out
            replace p1 := cell_later hB (Nat.le_refl _) P1.out
            replace p2 := cell_later hB (Nat.le_refl _) P2.out
            replace p3 := cell_later hB (Nat.le_refl _) P3.out
            replace p4 := cell_later hB (Nat.le_refl _) P4.out
            replace p5 := cell_later hB (Nat.le_refl _) P5.out
            replace p6 := cell_later hB (Nat.le_refl _) P6.out
            have HB2 := Lib.hid hB
            have wj : IntKind.i64.wrap ((j : Int) + 1) = (j : Int) + 1 := wrap_in (by omega) (by omega)
            have VA2 : Hid (InA wr V (some ⟨g1, o1, none⟩)) := Lib.hid (KA.out.v.below hB)
            clear hB
            by_cases jlt : j < i
            · obtain ⟨g1', o1', e1, kk⟩ := VA2.out (by intro e; have := VE.out; rw [e] at this; simp at this; omega)
              obtain ⟨rfl, rfl⟩ : g1' = g1 ∧ o1' = o1 := by
                have := Option.some.inj e1; injection this with q1 q2; exact ⟨q1.symm, q2.symm⟩
              have t0 := kk i (by rw [VE.out]; exact hlt)
              have t1 := kk j (by rw [VE.out]; omega)
              have jn : j < n1 := by omega
              clear kk e1
              rw [HX.out] at t0
              obtain ⟨y, hy⟩ : ∃ y, V.getD j 0 = y := ⟨_, rfl⟩
              rw [hy] at t1
              have HY := Lib.hid hy
              clear hy
              by_cases exy : y = x
              · subst exy
                have TH := Lib.hid (take_has (V := V) jlt (by rw [VE.out]; omega) HY.out)
                by_cases k6 : k = 6
                · by_cases i1 : i = 1
                  · subst i1
                    subst k6
                    have q1 : (1 : Int) < (n1 : Int) := by omega
                    go_upto_region 13 with fail
                    refine Rg.s0 20 [] fun WD DW => ?_
                    refine Rg.t 0 ?_
                    refine Rg.t 1 ?_
                    refine Rg.t 2 ?_
                    refine Rg.t 3 ?_
                    refine Rg.t 4 ?_
                    refine Rg.t 5 ?_
                    refine Rg.t 6 ?_
                    refine Rg.t 7 ?_
                    refine Rg.t 8 ?_
                    refine Rg.t 9 ?_
                    refine Rg.t 10 ?_
                    refine Rg.t 11 ?_
                    go_simp
                    refine Rg.t 12 ?_
                    refine Rg.t 13 ?_
                    refine Rg.t 14 ?_
                    refine Rg.t 15 ?_
                    refine Rg.t 16 ?_
                    refine Rg.t 17 ?_
                    refine Rg.t 18 ?_
                    refine Rg.t 19 ?_
                    refine Rg.l1 ?_
                    go_simp
                    go_wp2_with fail
                    go_roundw
                    case rel => exact ⟨j + 1, by omega, by go_num, Or.inl ⟨rfl, rfl⟩, over HB2.out DW⟩
                    simp [intOf]; omega
                  · have di : ((i : Int) == 1) = false := by simp; omega
                    have E : Hid (vaU k V n n1 = 5) := vaU_stop HV.out (by simp only [vaS, HX.out, TH.out, i1]; rw [if_neg (by have := X0.out; have := XN.out; omega)]; simp) (by decide) _ LT.out
                    subst k6
                    go_upto_region 13 with fail
                    refine Rg.s0 20 [] fun WD DW => ?_
                    refine Rg.t 0 ?_
                    refine Rg.t 1 ?_
                    refine Rg.t 2 ?_
                    refine Rg.t 3 ?_
                    refine Rg.t 4 ?_
                    refine Rg.t 5 ?_
                    refine Rg.t 6 ?_
                    refine Rg.t 7 ?_
                    refine Rg.t 8 ?_
                    refine Rg.t 9 ?_
                    refine Rg.t 10 ?_
                    refine Rg.t 11 ?_
                    go_simp
                    refine Rg.t 12 ?_
                    refine Rg.t 13 ?_
                    refine Rg.t 14 ?_
                    refine Rg.t 15 ?_
                    refine Rg.t 16 ?_
                    refine Rg.t 17 ?_
                    refine Rg.t 18 ?_
                    refine Rg.t 19 ?_
                    refine Rg.l1 ?_
                    go_simp
                    go_wp2_with fail
                    go_ret
                    refine ⟨congrArg (fun z => Ending.returned (Value.int IntKind.i64 z)) ?_, over B0.out (over HB2.out DW)⟩
                    rw [HZ.out]
                    simp [E.out]
                · have d6 : (k == 6) = false := by simpa using k6
                  have E : Hid (vaU k V n n1 = 5) := vaU_stop HV.out (by simp only [vaS, HX.out, TH.out, k6]; rw [if_neg (by have := X0.out; have := XN.out; omega)]; simp) (by decide) _ LT.out
                  go_upto_region 13 with fail
                  refine Rg.s0 20 [] fun WD DW => ?_
                  refine Rg.t 0 ?_
                  refine Rg.t 1 ?_
                  refine Rg.t 2 ?_
                  refine Rg.t 3 ?_
                  refine Rg.t 4 ?_
                  refine Rg.t 5 ?_
                  refine Rg.t 6 ?_
                  refine Rg.t 7 ?_
                  refine Rg.t 8 ?_
                  refine Rg.t 9 ?_
                  refine Rg.t 10 ?_
                  refine Rg.t 11 ?_
                  go_simp
                  refine Rg.t 12 ?_
                  refine Rg.t 13 ?_
                  refine Rg.t 14 ?_
                  refine Rg.t 15 ?_
                  go_simp
                  refine Rg.tx 16 ?_
                  refine Rg.tx 17 ?_
                  refine Rg.t 18 ?_
                  refine Rg.t 19 ?_
                  refine Rg.l1 ?_
                  go_simp
                  go_wp2_with fail
                  go_ret
                  refine ⟨congrArg (fun z => Ending.returned (Value.int IntKind.i64 z)) ?_, over B0.out (over HB2.out DW)⟩
                  rw [HZ.out]
                  simp [E.out]
              · have dx : (y == x) = false := by simpa using exy
                have G : Hid ((k = 6 ∧ i = 1) ∨ ∀ u, u < j + 1 → V.getD u 0 ≠ V.getD i 0) := by
                  show _
                  rcases HA.out with q | q
                  · exact Or.inl q
                  · refine Or.inr fun u hu => ?_
                    by_cases e : u = j
                    · subst e; rw [HY.out, HX.out]; exact exy
                    · exact q u (by omega)
                go_upto_region 13 with fail
                refine Rg.s0 20 [] fun WD DW => ?_
                refine Rg.t 0 ?_
                refine Rg.t 1 ?_
                refine Rg.t 2 ?_
                refine Rg.t 3 ?_
                refine Rg.t 4 ?_
                refine Rg.t 5 ?_
                refine Rg.t 6 ?_
                refine Rg.t 7 ?_
                refine Rg.t 8 ?_
                refine Rg.t 9 ?_
                refine Rg.t 10 ?_
                refine Rg.t 11 ?_
                go_simp
                refine Rg.tx 12 ?_
                refine Rg.tx 13 ?_
                refine Rg.tx 14 ?_
                refine Rg.tx 15 ?_
                refine Rg.tx 16 ?_
                refine Rg.tx 17 ?_
                refine Rg.tx 18 ?_
                refine Rg.tx 19 ?_
                refine Rg.l1 ?_
                go_simp
                go_wp2_with fail
                go_roundw
                case rel => exact ⟨j + 1, by omega, by go_num, G.out, over HB2.out DW⟩
                simp [intOf]; omega
            · obtain rfl : j = i := by omega
              have G : Hid (vaU k V n (j + 1) = 0) := Lib.hid (by
                refine vaU_go HV.out ?_
                simp only [vaS, HX.out]
                rw [if_neg (by have := X0.out; have := XN.out; omega)]
                rcases HA.out with ⟨q1, q2⟩ | q
                · simp [q1, q2]
                · rw [take_no (by rw [VE.out]; omega) (fun u hu => by rw [← HX.out]; exact q u hu)]; simp)
              go_wp2_with fail
              go_roundw
              case rel => exact ⟨j + 1, by rw [VE.out]; omega, by go_num, G.out, HB2.out⟩
              simp [intOf]; omega
      · obtain rfl : n1 = i := by omega
        have KB := Lib.hid (KA.out.below hB)
        have W60 : Hid (_) := Lib.hid (formed60_any KB.out HK.out H16.out)
        clear hB
        by_cases hf : foF k rel bd n1 n2 n3 T = true
        · have W61 := Lib.hid (fun w9 (hb : Below wr.heap.size wr w9) => ranged61_any (KB.out.below hb) HK.out hf)
          have e60 : foF (Con.mk k V F D rel bd T).kind (Con.mk k V F D rel bd T).rel (Con.mk k V F D rel bd T).bound n1 n2 n3 (Con.mk k V F D rel bd T).tuples = true := hf
          rw [e60] at W60
          have HF := Lib.hid hf
          clear hf e60
          go_upto_region 17 with (go_at_call 60; refine W60.out.mono ?_; rintro e w9 ⟨rfl, hb⟩; have B9 := Lib.hid hb; clear hb)
          replace p0 := cell_later B9.out (Nat.le_refl _) p0
          replace p1 := cell_later B9.out (Nat.le_refl _) p1
          replace p2 := cell_later B9.out (Nat.le_refl _) p2
          replace p3 := cell_later B9.out (Nat.le_refl _) p3
          replace p4 := cell_later B9.out (Nat.le_refl _) p4
          replace p5 := cell_later B9.out (Nat.le_refl _) p5
          replace p6 := cell_later B9.out (Nat.le_refl _) p6
          by_cases t200 : 200 < n6
          · go_wp2_with fail
            go_ret
            refine ⟨congrArg (fun z => Ending.returned (Value.int IntKind.i64 z)) ?_, over (over B0.out HB.out) B9.out⟩
            rw [HZ.out]
            simp [HV.out, HF.out, t200]
          · have W61b := Lib.hid (W61.out _ B9.out)
            clear W61
            have E2 : Hid (raF (Con.mk k V F D rel bd T).kind (Con.mk k V F D rel bd T).rel (Con.mk k V F D rel bd T).bound (Con.mk k V F D rel bd T).coefs (Con.mk k V F D rel bd T).needs (Con.mk k V F D rel bd T).tuples = raF k rel bd F D T) := Lib.hid rfl
            rw [E2.out] at W61b
            clear E2
            obtain ⟨b, hb⟩ : ∃ b, raF k rel bd F D T = b := ⟨_, rfl⟩
            rw [hb] at W61b
            have HRA := Lib.hid hb
            clear hb
            cases b
            all_goals
              go_wp2_with (go_at_call 61; refine W61b.out.mono ?_; rintro e w8 ⟨rfl, hb⟩; have B8 := Lib.hid hb; clear hb)
              go_ret
              refine ⟨congrArg (fun z => Ending.returned (Value.int IntKind.i64 z)) ?_, over (over (over B0.out HB.out) B9.out) B8.out⟩
              rw [HZ.out]
              simp [HV.out, HF.out, t200, HRA.out]
        · have hf : foF k rel bd n1 n2 n3 T = false := by simpa using hf
          have e60 : foF (Con.mk k V F D rel bd T).kind (Con.mk k V F D rel bd T).rel (Con.mk k V F D rel bd T).bound n1 n2 n3 (Con.mk k V F D rel bd T).tuples = false := hf
          rw [e60] at W60
          have HF := Lib.hid hf
          clear hf e60
          go_wp2_with (go_at_call 60; refine W60.out.mono ?_; rintro e w9 ⟨rfl, hb⟩; have B9 := Lib.hid hb; clear hb)
          go_ret
          refine ⟨congrArg (fun z => Ending.returned (Value.int IntKind.i64 z)) ?_, over (over B0.out HB.out) B9.out⟩
          rw [HZ.out]
          simp [HV.out, HF.out]
    · have har : arF k n1 = false := by simpa using har
      rw [har] at W59
      have E1 : Hid (faF k rel bd V F D T n = 3) := Lib.hid (by
        rw [← VE.out] at har
        simp [faF, hk, har])
      rw [E1.out]
      clear E1 har hk
      go_enter Tryz.func31, Tryz.ntmps31
      go_wp2_with first | (go_at_call 53; refine (W53.out _).mono ?_; rintro e w9 ⟨rfl, hw⟩; have hw := hw.symm; subst hw) | (go_at_call 59; refine (W59.out _).mono ?_; rintro e w9 ⟨rfl, hw⟩; have hw := hw.symm; subst hw)
      go_ret
      exact ⟨rfl, B0.out⟩
  · have hk : kndF k = false := by simpa using hk
    have e53 : wiF k 1 10 = false := hk
    rw [e53] at W53
    have E1 : Hid (faF k rel bd V F D T n = 7) := Lib.hid (by simp [faF, hk])
    rw [E1.out]
    clear E1 hk e53
    go_enter Tryz.func31, Tryz.ntmps31
    go_wp2_with (go_at_call 53; refine (W53.out _).mono ?_; rintro e w9 ⟨rfl, hw⟩; have hw := hw.symm; subst hw)
    go_ret
    exact ⟨rfl, B0.out⟩
end Go.Proofs.YteiohgiecpibhaaGreat
set_option linter.unusedVariables false
set_option linter.unusedSimpArgs false
set_option maxRecDepth 100000
set_option maxHeartbeats 4000000
namespace Go.Proofs.YteiohgiecpibhaaGreat
open Go.RowKit Fdm

theorem shp_else {k : Int} (hk : kndF k = true) (h1 : k ≠ 1) (h9 : k ≠ 9) (h10 : k ≠ 10) : ∃ l m bo tu, shF k = ⟨l, m, false, false, false, bo, tu⟩ ∧ (bo = true → tu = false) := by
  rcases knd_cases hk with rfl | rfl | rfl | rfl | rfl | rfl | rfl | rfl | rfl | rfl
  all_goals first | exact absurd rfl h1 | exact absurd rfl h9 | exact absurd rfl h10 | exact ⟨_, _, _, _, rfl, by decide⟩
theorem all_any_len {T : List (List Int)} {n : Nat} : (!T.any (fun t => decide (t.length ≠ n))) = T.all (fun t => decide (t.length = n)) := by
  rw [List.all_eq_not_any_not]; congr 2; funext t; simp
theorem empty_iff {T : List (List Int)} {n : Nat} (h : T.length = n) : (!T.isEmpty) = decide (0 < n) := by
  subst h; cases T <;> simp
theorem form57_any {w : World} {c : Con} {a1 a2 a3 a6 : Option Addr} {n1 c1 n2 c2 n3 c3 n6 c6 : Nat} (h : Ka w c a1 n1 c1 a2 n2 c2 a3 n3 c3 a6 n6 c6) (hk : kndF c.kind = true) (h1 : n1 ≤ 16) :
    Calls Tryz.prog 57 #[.agg #[.int .i64 c.kind, .slice a1 n1 c1, .slice a2 n2 c2, .slice a3 n3 c3, .int .i64 c.rel, .int .i64 c.bound, .slice a6 n6 c6], (shF c.kind).v] w fun e w' => e = .returned (.bool (foF c.kind c.rel c.bound n1 n2 n3 c.tuples)) ∧ Below w.heap.size w w' := by
  have HT := Lib.hid h.t; have HR := Lib.hid h.rt
  clear h
  obtain ⟨k, V, F, D, rel, bd, T⟩ := c
  show Calls Tryz.prog 57 #[.agg #[.int .i64 k, .slice a1 n1 c1, .slice a2 n2 c2, .slice a3 n3 c3, .int .i64 rel, .int .i64 bd, .slice a6 n6 c6], (shF k).v] w fun e w' => e = .returned (.bool (foF k rel bd n1 n2 n3 T)) ∧ Below w.heap.size w w'
  have HT : Hid (TuA w T a6) := HT
  have HR : Hid (Rm T.length n6 c6) := HR
  have hk : kndF k = true := hk
  have EE : Hid ((!T.isEmpty) = decide (0 < n6)) := Lib.hid (empty_iff HR.out.e)
  have wr : Hid (IntKind.i64.wrap ((n1 : Int) - 1) = (n1 : Int) - 1) := Lib.hid (wrap_in (by omega) (by omega))
  have FO : Hid (foF k rel bd n1 n2 n3 T = (decide ((n2 : Int) = coF k n1) && decide (n3 = if k = 9 then n1 else 0) && ((shF k).rel || decide (rel = 0)) && ((shF k).bound || decide (bd = 0)) && ((shF k).tuples == decide (0 < n6)) && !T.any (fun t => decide (t.length ≠ n1)))) := by
    show _
    rw [all_any_len, ← EE.out]; rfl
  rw [FO.out]
  clear FO EE
  generalize hS : shF k = S
  obtain ⟨sl, sm, co, ne, re, bo, tu⟩ := S
  show Calls Tryz.prog 57 #[.agg #[.int .i64 k, .slice a1 n1 c1, .slice a2 n2 c2, .slice a3 n3 c3, .int .i64 rel, .int .i64 bd, .slice a6 n6 c6], .agg #[.int .i64 sl, .int .i64 sm, .bool co, .bool ne, .bool re, .bool bo, .bool tu]] w fun e w' => e = .returned (.bool (decide ((n2 : Int) = coF k n1) && decide (n3 = if k = 9 then n1 else 0) && (re || decide (rel = 0)) && (bo || decide (bd = 0)) && (tu == decide (0 < n6)) && !T.any (fun t => decide (t.length ≠ n1)))) ∧ Below w.heap.size w w'
  obtain ⟨W1, hW1⟩ : ∃ W1, (w.alloc (.cells #[.int .i64 k, .slice a1 n1 c1, .slice a2 n2 c2, .slice a3 n3 c3, .int .i64 rel, .int .i64 bd, .slice a6 n6 c6] 33)).alloc (.cells #[.int .i64 sl, .int .i64 sm, .bool co, .bool ne, .bool re, .bool bo, .bool tu] 78) = W1 := ⟨_, rfl⟩
  have Z := alloc2 w (.cells #[.int .i64 k, .slice a1 n1 c1, .slice a2 n2 c2, .slice a3 n3 c3, .int .i64 rel, .int .i64 bd, .slice a6 n6 c6] 33) (.cells #[.int .i64 sl, .int .i64 sm, .bool co, .bool ne, .bool re, .bool bo, .bool tu] 78)
  rw [hW1] at Z
  obtain ⟨I0, I1, hB, -⟩ := Z
  have B1 := Lib.hid hB
  clear hB
  have p0 : W1.cell? ⟨w.heap.size, 0, none⟩ = some (.int .i64 k) := by rw [cell_of_row _ _ _ _ _ _ I0]; rfl
  have p1 : W1.cell? ⟨w.heap.size, 1, none⟩ = some (.slice a1 n1 c1) := by rw [cell_of_row _ _ _ _ _ _ I0]; rfl
  have p2 : W1.cell? ⟨w.heap.size, 2, none⟩ = some (.slice a2 n2 c2) := by rw [cell_of_row _ _ _ _ _ _ I0]; rfl
  have p3 : W1.cell? ⟨w.heap.size, 3, none⟩ = some (.slice a3 n3 c3) := by rw [cell_of_row _ _ _ _ _ _ I0]; rfl
  have p4 : W1.cell? ⟨w.heap.size, 4, none⟩ = some (.int .i64 rel) := by rw [cell_of_row _ _ _ _ _ _ I0]; rfl
  have p5 : W1.cell? ⟨w.heap.size, 5, none⟩ = some (.int .i64 bd) := by rw [cell_of_row _ _ _ _ _ _ I0]; rfl
  have p6 : W1.cell? ⟨w.heap.size, 6, none⟩ = some (.slice a6 n6 c6) := by rw [cell_of_row _ _ _ _ _ _ I0]; rfl
  have d0 : W1.cell? ⟨w.heap.size + 1, 0, none⟩ = some (.int .i64 sl) := by rw [cell_of_row _ _ _ _ _ _ I1]; rfl
  have d1 : W1.cell? ⟨w.heap.size + 1, 1, none⟩ = some (.int .i64 sm) := by rw [cell_of_row _ _ _ _ _ _ I1]; rfl
  have d2 : W1.cell? ⟨w.heap.size + 1, 2, none⟩ = some (.bool co) := by rw [cell_of_row _ _ _ _ _ _ I1]; rfl
  have d3 : W1.cell? ⟨w.heap.size + 1, 3, none⟩ = some (.bool ne) := by rw [cell_of_row _ _ _ _ _ _ I1]; rfl
  have d4 : W1.cell? ⟨w.heap.size + 1, 4, none⟩ = some (.bool re) := by rw [cell_of_row _ _ _ _ _ _ I1]; rfl
  have d5 : W1.cell? ⟨w.heap.size + 1, 5, none⟩ = some (.bool bo) := by rw [cell_of_row _ _ _ _ _ _ I1]; rfl
  have d6 : W1.cell? ⟨w.heap.size + 1, 6, none⟩ = some (.bool tu) := by rw [cell_of_row _ _ _ _ _ _ I1]; rfl
  have CO := Lib.hid (con81_any (HT.out.below B1.out) HR.out p1)
  obtain ⟨bt, hbt⟩ : ∃ bt, T.any (fun t => decide (t.length ≠ n1)) = bt := ⟨_, rfl⟩
  rw [hbt] at CO
  rw [hbt]
  clear I0 I1 hbt HT HR h1
  by_cases k10 : k = 10
  · subst k10
    obtain ⟨rfl, rfl, rfl, rfl, rfl, rfl, rfl⟩ := Shp.mk.inj hS
    clear hS
    have WR := wr.out
    have C10 : Hid (coF 10 n1 = (n1 : Int) - 1) := Lib.hid rfl
    rw [C10.out]
    have Z9 : Hid ((if (10 : Int) = 9 then n1 else 0) = 0) := Lib.hid rfl
    rw [Z9.out]
    clear Z9 C10 wr hk
    by_cases e2 : (n2 : Int) = (n1 : Int) - 1
    · have E2 := Lib.hid e2
      by_cases e3 : n3 = 0
      · subst e3
        by_cases z6 : 0 < n6
        · have z6i : (0 : Int) < (n6 : Int) := by omega
          go_enter Tryz.func57, Tryz.ntmps57
          go_wp2_with fail
          go_ret
          refine ⟨congrArg (fun b => Ending.returned (Value.bool b)) ?_, B1.out⟩
          first | (simp [z6]; done) | (simp [z6]; omega) | (simp [z6]; intros; omega)
        · obtain rfl : n6 = 0 := by omega
          go_enter Tryz.func57, Tryz.ntmps57
          go_wp2_with (go_at_call 81; refine CO.out.mono ?_; rintro e w9 ⟨rfl, hw⟩; have hw := hw.symm; subst hw)
          go_ret
          refine ⟨congrArg (fun b => Ending.returned (Value.bool b)) ?_, B1.out⟩
          first | (simp [e2]; done) | (simp [e2]; omega) | (simp [e2]; intros; omega)
      · have x3 : ((n3 : Int) != 0) = true := by simp; omega
        go_enter Tryz.func57, Tryz.ntmps57
        go_wp2_with fail
        go_ret
        refine ⟨congrArg (fun b => Ending.returned (Value.bool b)) ?_, B1.out⟩
        first | (simp [e3]; done) | (simp [e3]; omega) | (simp [e3]; intros; omega)
    · have x2 : ((n2 : Int) != (n1 : Int) - 1) = true := by simpa using e2
      go_enter Tryz.func57, Tryz.ntmps57
      go_wp2_with fail
      go_ret
      refine ⟨congrArg (fun b => Ending.returned (Value.bool b)) ?_, B1.out⟩
      first | (simp [e2]; done) | (simp [e2]; omega) | (simp [e2]; intros; omega)
  · have d10 : (k == 10) = false := by simpa using k10
    clear wr
    by_cases k1 : k = 1
    · subst k1
      obtain ⟨rfl, rfl, rfl, rfl, rfl, rfl, rfl⟩ := Shp.mk.inj hS
      clear hS
      have C10 : Hid (coF 1 n1 = (n1 : Int)) := Lib.hid rfl
      rw [C10.out]
      have Z9 : Hid ((if (1 : Int) = 9 then n1 else 0) = 0) := Lib.hid rfl
      rw [Z9.out]
      clear Z9 C10 hk
      by_cases e2 : (n2 : Int) = (n1 : Int)
      · obtain rfl : n1 = n2 := by omega
        by_cases e3 : n3 = 0
        · subst e3
          by_cases z6 : 0 < n6
          · have z6i : (0 : Int) < (n6 : Int) := by omega
            go_enter Tryz.func57, Tryz.ntmps57
            go_wp2_with fail
            go_ret
            refine ⟨congrArg (fun b => Ending.returned (Value.bool b)) ?_, B1.out⟩
            first | (simp [z6]; done) | (simp [z6]; omega) | (simp [z6]; intros; omega)
          · obtain rfl : n6 = 0 := by omega
            go_enter Tryz.func57, Tryz.ntmps57
            go_wp2_with (go_at_call 81; refine CO.out.mono ?_; rintro e w9 ⟨rfl, hw⟩; have hw := hw.symm; subst hw)
            go_ret
            refine ⟨congrArg (fun b => Ending.returned (Value.bool b)) ?_, B1.out⟩
            first | (simp; done) | (simp; omega) | (simp; intros; omega)
        · have x3 : ((n3 : Int) != 0) = true := by simp; omega
          go_enter Tryz.func57, Tryz.ntmps57
          go_wp2_with fail
          go_ret
          refine ⟨congrArg (fun b => Ending.returned (Value.bool b)) ?_, B1.out⟩
          first | (simp [e3]; done) | (simp [e3]; omega) | (simp [e3]; intros; omega)
      · have x2 : ((n2 : Int) != (n1 : Int)) = true := by simpa using e2
        go_enter Tryz.func57, Tryz.ntmps57
        go_wp2_with fail
        go_ret
        refine ⟨congrArg (fun b => Ending.returned (Value.bool b)) ?_, B1.out⟩
        first | (simp [e2]; done) | (simp [e2]; omega) | (simp [e2]; intros; omega)
    · by_cases k9 : k = 9
      · subst k9
        obtain ⟨rfl, rfl, rfl, rfl, rfl, rfl, rfl⟩ := Shp.mk.inj hS
        clear hS
        have C10 : Hid (coF 9 n1 = (n1 : Int)) := Lib.hid rfl
        rw [C10.out]
        have Z9 : Hid ((if (9 : Int) = 9 then n1 else 0) = n1) := Lib.hid rfl
        rw [Z9.out]
        clear Z9 C10 hk
        by_cases e2 : (n2 : Int) = (n1 : Int)
        · obtain rfl : n1 = n2 := by omega
          by_cases e3 : n3 = n1
          · obtain rfl : n1 = n3 := e3.symm
            by_cases r0 : rel = 0
            · subst r0
              by_cases z6 : 0 < n6
              · have z6i : (0 : Int) < (n6 : Int) := by omega
                go_enter Tryz.func57, Tryz.ntmps57
                go_wp2_with fail
                go_ret
                refine ⟨congrArg (fun b => Ending.returned (Value.bool b)) ?_, B1.out⟩
                first | (simp [z6]; done) | (simp [z6]; omega) | (simp [z6]; intros; omega)
              · obtain rfl : n6 = 0 := by omega
                go_enter Tryz.func57, Tryz.ntmps57
                go_wp2_with (go_at_call 81; refine CO.out.mono ?_; rintro e w9 ⟨rfl, hw⟩; have hw := hw.symm; subst hw)
                go_ret
                refine ⟨congrArg (fun b => Ending.returned (Value.bool b)) ?_, B1.out⟩
                first | (simp; done) | (simp; omega) | (simp; intros; omega)
            · have xr : (rel != 0) = true := by simpa using r0
              go_enter Tryz.func57, Tryz.ntmps57
              go_wp2_with fail
              go_ret
              refine ⟨congrArg (fun b => Ending.returned (Value.bool b)) ?_, B1.out⟩
              first | (simp [r0]; done) | (simp [r0]; omega) | (simp [r0]; intros; omega)
          · have x3 : ((n3 : Int) != (n1 : Int)) = true := by simp; omega
            go_enter Tryz.func57, Tryz.ntmps57
            go_wp2_with fail
            go_ret
            refine ⟨congrArg (fun b => Ending.returned (Value.bool b)) ?_, B1.out⟩
            first | (simp [e3]; done) | (simp [e3]; omega) | (simp [e3]; intros; omega)
        · have x2 : ((n2 : Int) != (n1 : Int)) = true := by simpa using e2
          go_enter Tryz.func57, Tryz.ntmps57
          go_wp2_with fail
          go_ret
          refine ⟨congrArg (fun b => Ending.returned (Value.bool b)) ?_, B1.out⟩
          first | (simp [e2]; done) | (simp [e2]; omega) | (simp [e2]; intros; omega)
      · obtain ⟨l', m', bo', tu', hS', hbt'⟩ := shp_else hk k1 k9 k10
        rw [hS'] at hS
        obtain ⟨rfl, rfl, rfl, rfl, rfl, rfl, rfl⟩ := Shp.mk.inj hS
        clear hS hS'
        have C10 : Hid (coF k n1 = 0) := Lib.hid (no_co _ k1 k9 k10)
        rw [C10.out]
        have Z9 : Hid ((if k = 9 then n1 else 0) = 0) := Lib.hid (if_neg k9)
        rw [Z9.out]
        clear Z9 C10 hk
        by_cases e2 : (n2 : Int) = 0
        · obtain rfl : n2 = 0 := by omega
          by_cases e3 : n3 = 0
          · subst e3
            by_cases r0 : rel = 0
            · subst r0
              cases bo'
              · by_cases b0 : bd = 0
                · subst b0
                  cases tu'
                  · clear hbt'
                    by_cases z6 : 0 < n6
                    · have z6i : (0 : Int) < (n6 : Int) := by omega
                      go_enter Tryz.func57, Tryz.ntmps57
                      go_wp2_with fail
                      go_ret
                      refine ⟨congrArg (fun b => Ending.returned (Value.bool b)) ?_, B1.out⟩
                      first | (simp [z6]; done) | (simp [z6]; omega) | (simp [z6]; intros; omega)
                    · obtain rfl : n6 = 0 := by omega
                      go_enter Tryz.func57, Tryz.ntmps57
                      go_wp2_with (go_at_call 81; refine CO.out.mono ?_; rintro e w9 ⟨rfl, hw⟩; have hw := hw.symm; subst hw)
                      go_ret
                      refine ⟨congrArg (fun b => Ending.returned (Value.bool b)) ?_, B1.out⟩
                      first | (simp; done) | (simp; omega) | (simp; intros; omega)
                  · clear hbt'
                    by_cases z6 : 0 < n6
                    · have z6i : (0 : Int) < (n6 : Int) := by omega
                      go_enter Tryz.func57, Tryz.ntmps57
                      go_wp2_with (go_at_call 81; refine CO.out.mono ?_; rintro e w9 ⟨rfl, hw⟩; have hw := hw.symm; subst hw)
                      go_ret
                      refine ⟨congrArg (fun b => Ending.returned (Value.bool b)) ?_, B1.out⟩
                      first | (simp [z6]; done) | (simp [z6]; omega) | (simp [z6]; intros; omega)
                    · obtain rfl : n6 = 0 := by omega
                      go_enter Tryz.func57, Tryz.ntmps57
                      go_wp2_with fail
                      go_ret
                      refine ⟨congrArg (fun b => Ending.returned (Value.bool b)) ?_, B1.out⟩
                      first | (simp; done) | (simp; omega) | (simp; intros; omega)
                · have xb : (bd != 0) = true := by simpa using b0
                  go_enter Tryz.func57, Tryz.ntmps57
                  go_wp2_with fail
                  go_ret
                  refine ⟨congrArg (fun b => Ending.returned (Value.bool b)) ?_, B1.out⟩
                  first | (simp [b0]; done) | (simp [b0]; omega) | (simp [b0]; intros; omega)
              · obtain rfl := hbt' rfl
                clear hbt'
                by_cases z6 : 0 < n6
                · have z6i : (0 : Int) < (n6 : Int) := by omega
                  go_enter Tryz.func57, Tryz.ntmps57
                  go_wp2_with fail
                  go_ret
                  refine ⟨congrArg (fun b => Ending.returned (Value.bool b)) ?_, B1.out⟩
                  first | (simp [z6]; done) | (simp [z6]; omega) | (simp [z6]; intros; omega)
                · obtain rfl : n6 = 0 := by omega
                  go_enter Tryz.func57, Tryz.ntmps57
                  go_wp2_with (go_at_call 81; refine CO.out.mono ?_; rintro e w9 ⟨rfl, hw⟩; have hw := hw.symm; subst hw)
                  go_ret
                  refine ⟨congrArg (fun b => Ending.returned (Value.bool b)) ?_, B1.out⟩
                  first | (simp; done) | (simp; omega) | (simp; intros; omega)
            · have xr : (rel != 0) = true := by simpa using r0
              go_enter Tryz.func57, Tryz.ntmps57
              go_wp2_with fail
              go_ret
              refine ⟨congrArg (fun b => Ending.returned (Value.bool b)) ?_, B1.out⟩
              first | (simp [r0]; done) | (simp [r0]; omega) | (simp [r0]; intros; omega)
          · have x3 : ((n3 : Int) != 0) = true := by simp; omega
            go_enter Tryz.func57, Tryz.ntmps57
            go_wp2_with fail
            go_ret
            refine ⟨congrArg (fun b => Ending.returned (Value.bool b)) ?_, B1.out⟩
            first | (simp [e3]; done) | (simp [e3]; omega) | (simp [e3]; intros; omega)
        · have x2 : ((n2 : Int) != 0) = true := by simpa using e2
          go_enter Tryz.func57, Tryz.ntmps57
          go_wp2_with fail
          go_ret
          refine ⟨congrArg (fun b => Ending.returned (Value.bool b)) ?_, B1.out⟩
          first | (simp [e2]; done) | (simp [e2]; omega) | (simp [e2]; intros; omega)
end Go.Proofs.YteiohgiecpibhaaGreat
