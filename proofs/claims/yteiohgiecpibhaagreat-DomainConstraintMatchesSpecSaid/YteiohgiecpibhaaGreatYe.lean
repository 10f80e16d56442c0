/- CheckConstraint answers what the reference's Fault answers. -/
import Derived.Test.YteiohgiecpibhaaGreatNA
import Derived.Test.YteiohgiecpibhaaGreatYd
set_option linter.unusedVariables false
set_option linter.unusedSimpArgs false
set_option maxRecDepth 100000
set_option maxHeartbeats 4000000
namespace Go.Proofs.YteiohgiecpibhaaGreat
open Go.RowKit Fdm

theorem take_in {w : World} {V : List Int} {g o i : Nat} (hi : i ≤ V.length) (h : ∀ j, j < V.length → w.cell? ⟨g, o + j, none⟩ = some (.int .i64 (V.getD j 0))) : InA w (V.take i) (some ⟨g, o, none⟩) := fun _ =>
  ⟨g, o, rfl, fun j hj => by
    have hj' : j < i := by rw [List.length_take] at hj; omega
    rw [h j (by omega)]
    congr 2
    rw [List.getD_eq_getElem?_getD, List.getD_eq_getElem?_getD, List.getElem?_take, if_pos hj']⟩
def CcL (k n : Int) (V : List Int) (W : World) (v : Value) (wr : World) : Prop := ∃ i : Nat, i ≤ V.length ∧ v = .int .i64 (i : Int) ∧ vaU k V n i = 0 ∧ W = wr
theorem check30_any {w : World} {c : Con} {a1 a2 a3 a6 : Option Addr} {n1 c1 n2 c2 n3 c3 n6 c6 : Nat} (h : Ka w c a1 n1 c1 a2 n2 c2 a3 n3 c3 a6 n6 c6) (n : Int) :
    Calls Tryz.prog 30 #[.agg #[.int .i64 c.kind, .slice a1 n1 c1, .slice a2 n2 c2, .slice a3 n3 c3, .int .i64 c.rel, .int .i64 c.bound, .slice a6 n6 c6], .int .i64 n] w fun e w' => e = .returned (.int .i64 (faF c.kind c.rel c.bound c.vars c.coefs c.needs c.tuples n)) ∧ Below w.heap.size w w' := by
  have h' := Lib.hid h
  clear h
  obtain ⟨k, V, F, D, rel, bd, T⟩ := c
  show Calls Tryz.prog 30 #[.agg #[.int .i64 k, .slice a1 n1 c1, .slice a2 n2 c2, .slice a3 n3 c3, .int .i64 rel, .int .i64 bd, .slice a6 n6 c6], .int .i64 n] w fun e w' => e = .returned (.int .i64 (faF k rel bd V F D T n)) ∧ Below w.heap.size w w'
  have VE : Hid (V.length = n1) := Lib.hid h'.out.rv.e
  have FE : Hid (F.length = n2) := Lib.hid h'.out.rf.e
  have DE : Hid (D.length = n3) := Lib.hid h'.out.rd.e
  have TE : Hid (T.length = n6) := Lib.hid h'.out.rt.e
  have V2 := Lib.hid h'.out.rv.l; have V3 := Lib.hid h'.out.rv.u
  obtain ⟨W0, hW0⟩ : ∃ W0, w.alloc (.cells #[.int .i64 k, .slice a1 n1 c1, .slice a2 n2 c2, .slice a3 n3 c3, .int .i64 rel, .int .i64 bd, .slice a6 n6 c6] 33) = W0 := ⟨_, rfl⟩
  have B0 : Hid (Below w.heap.size w W0) := by rw [← hW0]; exact Lib.hid (below_new _ _)
  have I0 : Hid (W0.heap[w.heap.size]? = some (.cells #[.int .i64 k, .slice a1 n1 c1, .slice a2 n2 c2, .slice a3 n3 c3, .int .i64 rel, .int .i64 bd, .slice a6 n6 c6] 33 (0, 0))) := by rw [← hW0]; exact Lib.hid (heap_alloc_new _ _)
  have b0 : W0.cell? ⟨w.heap.size, 0, none⟩ = some (.int .i64 k) := by rw [cell_of_row _ _ _ _ _ _ I0.out]; rfl
  have KA := Lib.hid (h'.out.below B0.out)
  have SH := Lib.hid (shape_any k)
  have HS0 : Hid (∃ S, shF k = S) := Lib.hid ⟨_, rfl⟩
  obtain ⟨S, hS⟩ := HS0.out
  obtain ⟨sl, sm, co, ne, re, bo, tu⟩ := S
  have eV : (shF k).v = .agg #[.int .i64 sl, .int .i64 sm, .bool co, .bool ne, .bool re, .bool bo, .bool tu] := by rw [hS]; rfl
  rw [eV] at SH
  have AR : Hid (arF k n1 = (decide (sl ≤ (n1 : Int)) && decide ((n1 : Int) ≤ sm))) := Lib.hid (by simp only [arF, hS])
  have HS := Lib.hid hS
  clear HS0 hS
  obtain ⟨z, hz⟩ : ∃ z : Int, faF k rel bd V F D T n = z := ⟨_, rfl⟩
  have HZ0 : Hid (z = faF k rel bd V F D T n) := Lib.hid hz.symm
  rw [hz]
  clear hz
  by_cases hk : kndF k = true
  · rw [hk] at SH
    have HK := Lib.hid hk
    go_enter Tryz.func30, Tryz.ntmps30
    go_upto_region 1 with fail
    go_upto_region 2 with (go_at_call 55; refine (SH.out _).mono ?_; rintro e w2 ⟨rfl, hb⟩; have B2 := Lib.hid hb; clear hb)
    obtain ⟨w3, hw3⟩ : ∃ w3, (w2.alloc (.cells #[.int .i64 sl, .int .i64 sm, .bool co, .bool ne, .bool re, .bool bo, .bool tu] 78)) = w3 := ⟨_, rfl⟩
    have B3 : Hid (Below w2.heap.size w2 w3) := by rw [← hw3]; exact Lib.hid (below_new _ _)
    have I3 : Hid (w3.heap[w2.heap.size]? = some (.cells #[.int .i64 sl, .int .i64 sm, .bool co, .bool ne, .bool re, .bool bo, .bool tu] 78 (0, 0))) := by rw [← hw3]; exact Lib.hid (heap_alloc_new _ _)
    have BC : Hid (Below W0.heap.size W0 w3) := Lib.hid (over B2.out B3.out)
    have BB : Hid (Below w.heap.size w w3) := Lib.hid (over B0.out BC.out)
    have J0 : Hid (w3.heap[w.heap.size]? = some (.cells #[.int .i64 k, .slice a1 n1 c1, .slice a2 n2 c2, .slice a3 n3 c3, .int .i64 rel, .int .i64 bd, .slice a6 n6 c6] 33 (0, 0))) := Lib.hid ((BC.out.block _ (Array.getElem?_eq_some_iff.1 I0.out).1).trans I0.out)
    try rw [hw3]
    clear hw3
    have p0 : w3.cell? ⟨w.heap.size, 0, none⟩ = some (.int .i64 k) := by rw [cell_of_row _ _ _ _ _ _ J0.out]; rfl
    have p1 : w3.cell? ⟨w.heap.size, 1, none⟩ = some (.slice a1 n1 c1) := by rw [cell_of_row _ _ _ _ _ _ J0.out]; rfl
    have p2 : w3.cell? ⟨w.heap.size, 2, none⟩ = some (.slice a2 n2 c2) := by rw [cell_of_row _ _ _ _ _ _ J0.out]; rfl
    have p3 : w3.cell? ⟨w.heap.size, 3, none⟩ = some (.slice a3 n3 c3) := by rw [cell_of_row _ _ _ _ _ _ J0.out]; rfl
    have p4 : w3.cell? ⟨w.heap.size, 4, none⟩ = some (.int .i64 rel) := by rw [cell_of_row _ _ _ _ _ _ J0.out]; rfl
    have p5 : w3.cell? ⟨w.heap.size, 5, none⟩ = some (.int .i64 bd) := by rw [cell_of_row _ _ _ _ _ _ J0.out]; rfl
    have p6 : w3.cell? ⟨w.heap.size, 6, none⟩ = some (.slice a6 n6 c6) := by rw [cell_of_row _ _ _ _ _ _ J0.out]; rfl
    have d0 : w3.cell? ⟨w2.heap.size, 0, none⟩ = some (.int .i64 sl) := by rw [cell_of_row _ _ _ _ _ _ I3.out]; rfl
    have d1 : w3.cell? ⟨w2.heap.size, 1, none⟩ = some (.int .i64 sm) := by rw [cell_of_row _ _ _ _ _ _ I3.out]; rfl
    have d2 : w3.cell? ⟨w2.heap.size, 2, none⟩ = some (.bool co) := by rw [cell_of_row _ _ _ _ _ _ I3.out]; rfl
    have d3 : w3.cell? ⟨w2.heap.size, 3, none⟩ = some (.bool ne) := by rw [cell_of_row _ _ _ _ _ _ I3.out]; rfl
    have d4 : w3.cell? ⟨w2.heap.size, 4, none⟩ = some (.bool re) := by rw [cell_of_row _ _ _ _ _ _ I3.out]; rfl
    have d5 : w3.cell? ⟨w2.heap.size, 5, none⟩ = some (.bool bo) := by rw [cell_of_row _ _ _ _ _ _ I3.out]; rfl
    have d6 : w3.cell? ⟨w2.heap.size, 6, none⟩ = some (.bool tu) := by rw [cell_of_row _ _ _ _ _ _ I3.out]; rfl
    have VA : Hid (InA w3 V a1) := Lib.hid (KA.out.v.below BC.out)
    have KC := Lib.hid (KA.out.below BC.out)
    clear KA b0
    by_cases g1 : (n1 : Int) < sl
    · have E : Hid (faF k rel bd V F D T n = 3) := Lib.hid (by
        have : arF k n1 = false := by rw [AR.out]; simp; omega
        rw [← VE.out] at this
        simp [faF, hk, this])
      clear hk
      go_wp2_with fail
      go_ret
      refine ⟨congrArg (fun z => Ending.returned (Value.int IntKind.i64 z)) ?_, BB.out⟩
      rw [HZ0.out, E.out]
    · by_cases g2 : sm < (n1 : Int)
      · have E : Hid (faF k rel bd V F D T n = 3) := Lib.hid (by
          have : arF k n1 = false := by rw [AR.out]; simp; omega
          rw [← VE.out] at this
          simp [faF, hk, this])
        clear hk
        go_wp2_with fail
        go_ret
        refine ⟨congrArg (fun z => Ending.returned (Value.int IntKind.i64 z)) ?_, BB.out⟩
        rw [HZ0.out, E.out]
      · have har : arF k n1 = true := by rw [AR.out]; simp; omega
        have h16 := ar_le hk har
        have E1 : Hid (faF k rel bd V F D T n = if vaU k V n n1 ≠ 0 then vaU k V n n1 else if foF k rel bd n1 n2 n3 T = false then 2 else if 200 < n6 then 3 else if raF k rel bd F D T = false then 1 else 0) := Lib.hid (by
          rw [← VE.out, ← FE.out, ← DE.out, ← TE.out]
          rw [← VE.out] at har
          simp only [faF, hk, har, Bool.true_eq_false, if_false])
        have HZ : Hid (z = if vaU k V n n1 ≠ 0 then vaU k V n n1 else if foF k rel bd n1 n2 n3 T = false then 2 else if 200 < n6 then 3 else if raF k rel bd F D T = false then 1 else 0) := Lib.hid (HZ0.out.trans E1.out)
        clear E1 har
        have H16 := Lib.hid h16
        clear hk h16
        have G1 := Lib.hid g1; have G2 := Lib.hid g2
        go_wp2_with fail
        go_loopw [34] (fun v wr => CcL k n V w3 v wr) (fun v _ => n1 - (intOf v).toNat)
        case atStart => exact ⟨0, Nat.zero_le _, rfl, rfl, rfl⟩
        obtain ⟨i, hi, rfl, hva, rfl⟩ := hrel
        have HV := Lib.hid hva
        clear hva
        rw [VE.out] at hi
        have h16 := H16.out
        by_cases hlt : i < n1
        · have wi : IntKind.i64.wrap ((i : Int) + 1) = (i : Int) + 1 := wrap_in (by omega) (by omega)
          obtain ⟨ga, oa, rfl, kk⟩ := VA.out (by intro e; have := VE.out; rw [e] at this; simp at this; omega)
          have CT := Lib.hid (contains_any (l := V.take i) (n := i) (c := c1) (V.getD i 0) (take_in (by rw [VE.out]; exact hi) kk) (by rw [List.length_take, VE.out]; omega) (by have := V2.out; omega) V3.out)
          have t0 := kk i (by rw [VE.out]; exact hlt)
          clear kk
          obtain ⟨x, hx⟩ : ∃ x, V.getD i 0 = x := ⟨_, rfl⟩
          rw [hx] at t0 CT
          have HX := Lib.hid hx
          clear hx
          by_cases x0 : x < 0
          · have E : Hid (vaU k V n n1 = 1) := vaU_stop HV.out (by simp only [vaS, HX.out]; rw [if_pos (Or.inl x0)]) (by decide) _ hlt
            go_wp2_with fail
            go_ret
            refine ⟨congrArg (fun z => Ending.returned (Value.int IntKind.i64 z)) ?_, BB.out⟩
            rw [HZ.out]
            simp [E.out]
          · by_cases xn : n ≤ x
            · have E : Hid (vaU k V n n1 = 1) := vaU_stop HV.out (by simp only [vaS, HX.out]; rw [if_pos (Or.inr xn)]) (by decide) _ hlt
              go_wp2_with fail
              go_ret
              refine ⟨congrArg (fun z => Ending.returned (Value.int IntKind.i64 z)) ?_, BB.out⟩
              rw [HZ.out]
              simp [E.out]
            · have sc : i ≤ c1 := by have := V2.out; omega
              have sc2 : (i : Int) ≤ (c1 : Int) := by omega
              obtain ⟨b, hb⟩ : ∃ b, (V.take i).contains x = b := ⟨_, rfl⟩
              rw [hb] at CT
              cases b
              · have G : Hid (vaU k V n (i + 1) = 0) := Lib.hid (by
                  refine vaU_go HV.out ?_
                  simp only [vaS, HX.out]
                  rw [if_neg (by omega), hb]; simp)
                clear hb
                go_wp2_with (go_at_call 56; refine CT.out.mono ?_; rintro e w' ⟨rfl, hw⟩; have hw := hw.symm; subst hw)
                go_roundw
                case rel => exact ⟨i + 1, by rw [VE.out]; omega, by go_num, G.out, rfl⟩
                simp [intOf]; omega
              · by_cases k6 : k = 6
                · by_cases i1 : i = 1
                  · have G : Hid (vaU k V n (i + 1) = 0) := Lib.hid (by
                      refine vaU_go HV.out ?_
                      simp only [vaS, HX.out]
                      rw [if_neg (by omega), hb]; simp [k6, i1])
                    clear hb
                    subst k6
                    subst i1
                    go_wp2_with (go_at_call 56; refine CT.out.mono ?_; rintro e w' ⟨rfl, hw⟩; have hw := hw.symm; subst hw)
                    go_roundw
                    case rel => exact ⟨1 + 1, by rw [VE.out]; omega, by go_num, G.out, rfl⟩
                    simp [intOf]; omega
                  · have E : Hid (vaU k V n n1 = 5) := vaU_stop HV.out (by simp only [vaS, HX.out, hb, i1]; rw [if_neg (by omega)]; simp) (by decide) _ hlt
                    have di : ((i : Int) == 1) = false := by simp; omega
                    clear hb
                    subst k6
                    go_wp2_with (go_at_call 56; refine CT.out.mono ?_; rintro e w' ⟨rfl, hw⟩; have hw := hw.symm; subst hw)
                    go_ret
                    refine ⟨congrArg (fun z => Ending.returned (Value.int IntKind.i64 z)) ?_, BB.out⟩
                    rw [HZ.out]
                    simp [E.out]
                · have E : Hid (vaU k V n n1 = 5) := vaU_stop HV.out (by simp only [vaS, HX.out, hb, k6]; rw [if_neg (by omega)]; simp) (by decide) _ hlt
                  have d6' : (k == 6) = false := by simpa using k6
                  clear hb
                  go_wp2_with (go_at_call 56; refine CT.out.mono ?_; rintro e w' ⟨rfl, hw⟩; have hw := hw.symm; subst hw)
                  go_ret
                  refine ⟨congrArg (fun z => Ending.returned (Value.int IntKind.i64 z)) ?_, BB.out⟩
                  rw [HZ.out]
                  simp [E.out]
        · obtain rfl : n1 = i := by omega
          have FM : Hid (Calls Tryz.prog 57 #[.agg #[.int .i64 k, .slice a1 n1 c1, .slice a2 n2 c2, .slice a3 n3 c3, .int .i64 rel, .int .i64 bd, .slice a6 n6 c6], .agg #[.int .i64 sl, .int .i64 sm, .bool co, .bool ne, .bool re, .bool bo, .bool tu]] w3 fun e w' => e = .returned (.bool (foF k rel bd n1 n2 n3 T)) ∧ Below w3.heap.size w3 w') := by
            have := form57_any KC.out HK.out H16.out
            rw [← eV]; exact Lib.hid this
          by_cases hf : foF k rel bd n1 n2 n3 T = true
          · have RG : Hid (∀ w9, Below w3.heap.size w3 w9 → Calls Tryz.prog 58 #[.agg #[.int .i64 k, .slice a1 n1 c1, .slice a2 n2 c2, .slice a3 n3 c3, .int .i64 rel, .int .i64 bd, .slice a6 n6 c6], .agg #[.int .i64 sl, .int .i64 sm, .bool co, .bool ne, .bool re, .bool bo, .bool tu]] w9 fun e w' => e = .returned (.bool (raF k rel bd F D T)) ∧ Below w9.heap.size w9 w') := by
              have := fun (w9 : World) (hb : Below w3.heap.size w3 w9) => ranges58_any (KC.out.below hb) HK.out hf
              rw [← eV]; exact Lib.hid this
            rw [hf] at FM
            have HF := Lib.hid hf
            clear hf eV
            go_upto_region 16 with (go_at_call 57; refine FM.out.mono ?_; rintro e w4 ⟨rfl, hb⟩; have B4 := Lib.hid hb; clear hb)
            replace p0 := cell_later B4.out (Nat.le_refl _) p0
            replace d0 := cell_later B4.out (Nat.le_refl _) d0
            replace p1 := cell_later B4.out (Nat.le_refl _) p1
            replace d1 := cell_later B4.out (Nat.le_refl _) d1
            replace p2 := cell_later B4.out (Nat.le_refl _) p2
            replace d2 := cell_later B4.out (Nat.le_refl _) d2
            replace p3 := cell_later B4.out (Nat.le_refl _) p3
            replace d3 := cell_later B4.out (Nat.le_refl _) d3
            replace p4 := cell_later B4.out (Nat.le_refl _) p4
            replace d4 := cell_later B4.out (Nat.le_refl _) d4
            replace p5 := cell_later B4.out (Nat.le_refl _) p5
            replace d5 := cell_later B4.out (Nat.le_refl _) d5
            replace p6 := cell_later B4.out (Nat.le_refl _) p6
            replace d6 := cell_later B4.out (Nat.le_refl _) d6
            by_cases t200 : 200 < n6
            · go_wp2_with fail
              go_ret
              refine ⟨congrArg (fun z => Ending.returned (Value.int IntKind.i64 z)) ?_, over BB.out B4.out⟩
              rw [HZ.out]
              simp [HV.out, HF.out, t200]
            · have RGb := Lib.hid (RG.out _ B4.out)
              clear RG
              obtain ⟨b, hb⟩ : ∃ b, raF k rel bd F D T = b := ⟨_, rfl⟩
              rw [hb] at RGb
              have HRA := Lib.hid hb
              clear hb
              cases b
              all_goals
                go_wp2_with (go_at_call 58; refine RGb.out.mono ?_; rintro e w5 ⟨rfl, hb⟩; have B5 := Lib.hid hb; clear hb)
                go_ret
                refine ⟨congrArg (fun z => Ending.returned (Value.int IntKind.i64 z)) ?_, over (over BB.out B4.out) B5.out⟩
                rw [HZ.out]
                simp [HV.out, HF.out, t200, HRA.out]
          · have hf : foF k rel bd n1 n2 n3 T = false := by simpa using hf
            rw [hf] at FM
            have HF := Lib.hid hf
            clear hf eV
            go_wp2_with (go_at_call 57; refine FM.out.mono ?_; rintro e w4 ⟨rfl, hb⟩; have B4 := Lib.hid hb; clear hb)
            go_ret
            refine ⟨congrArg (fun z => Ending.returned (Value.int IntKind.i64 z)) ?_, over BB.out B4.out⟩
            rw [HZ.out]
            simp [HV.out, HF.out]
  · have hk : kndF k = false := by simpa using hk
    rw [hk] at SH
    have E : Hid (faF k rel bd V F D T n = 7) := Lib.hid (by simp [faF, hk])
    rw [HZ0.out, E.out]
    clear E hk
    go_enter Tryz.func30, Tryz.ntmps30
    go_upto_region 1 with fail
    go_wp2_with (go_at_call 55; refine (SH.out _).mono ?_; rintro e w2 ⟨rfl, hb⟩; have B2 := Lib.hid hb; clear hb)
    go_ret
    exact ⟨rfl, over (over B0.out B2.out) (below_new _ _)⟩
end Go.Proofs.YteiohgiecpibhaaGreat
