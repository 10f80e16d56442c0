/- Holds of the reference; Compact of Sorted; Min, Max, Equal. -/
import Derived.Test.YteiohgiecpibhaaGreatNC
import Derived.Test.YteiohgiecpibhaaGreatML
import Derived.Test.YteiohgiecpibhaaGreatMX
set_option linter.unusedVariables false
set_option linter.unusedSimpArgs false
set_option maxRecDepth 100000
set_option maxHeartbeats 4000000
namespace Go.Proofs.YteiohgiecpibhaaGreat
open Go.RowKit Fdm

theorem hoF_other {k rel bd : Int} {F D : List Int} {T : List (List Int)} {x : List Int} :
    hoF 3 rel bd F D T x = decide x.Nodup ∧ hoF 5 rel bd F D T x = T.contains x ∧ hoF 8 rel bd F D T x = (x.getD 0 0 == cnU bd x (x.length - 1)) ∧ hoF 7 rel bd F D T x = (x.getD 0 0 == beU bd x (x.length - 1)) ∧ hoF 9 rel bd F D T x = ldF F D x bd x.length := ⟨rfl, rfl, rfl, rfl, rfl⟩
theorem drop_at (x : List Int) (m : Nat) : (x.drop 1).getD m 0 = x.getD (m + 1) 0 := by
  rw [List.getD_eq_getElem?_getD, List.getD_eq_getElem?_getD, List.getElem?_drop, Nat.add_comm]
def HoA (F x : List Int) (n : Nat) (W0 : World) (v5 v6 : Value) (wr : World) : Prop := ∃ i : Nat, i ≤ n ∧ v6 = .int .i64 (i : Int) ∧ v5 = .int .i64 (suF F x i) ∧ Below W0.heap.size W0 wr
def HoB (F x : List Int) (n : Nat) (W0 : World) (v7 v8 : Value) (wr : World) : Prop := ∃ m : Nat, m + 1 ≤ n ∧ v8 = .int .i64 ((m : Int) + 1) ∧ v7 = .int .i64 (suF F (x.drop 1) m) ∧ Below W0.heap.size W0 wr
theorem ar_ge {k : Int} {n : Nat} (hk : kndF k = true) (h : arF k n = true) : 1 ≤ n ∧ (k = 2 → n = 2) ∧ (k = 4 → 3 ≤ n) ∧ (k = 6 → n = 3) ∧ (k = 7 → 2 ≤ n) ∧ (k = 8 → 2 ≤ n) ∧ (k = 10 → 2 ≤ n) := by
  rcases knd_cases hk with rfl | rfl | rfl | rfl | rfl | rfl | rfl | rfl | rfl | rfl
  all_goals (simp [arF, shF] at h; omega)
theorem ho1_any {w : World} {rel bd : Int} {V F D : List Int} {T : List (List Int)} {x : List Int} {a1 a2 a3 a6 ax : Option Addr} {n1 c1 n2 c2 n3 c3 n6 c6 cx : Nat} (h : Ka w ⟨1, V, F, D, rel, bd, T⟩ a1 n1 c1 a2 n2 c2 a3 n3 c3 a6 n6 c6) (hx : InA w x ax) (xl : x.length = n1) (hc : n1 ≤ cx) (hok : Hok 1 rel bd F D T n1) (lx : ∀ i, i < n1 → -16384 ≤ x.getD i 0 ∧ x.getD i 0 ≤ 16384) :
    Calls Tryz.prog 54 #[.agg #[.int .i64 1, .slice a1 n1 c1, .slice a2 n2 c2, .slice a3 n3 c3, .int .i64 rel, .int .i64 bd, .slice a6 n6 c6], .slice ax n1 cx] w fun e w' => e = .returned (.bool (hoF 1 rel bd F D T x)) ∧ Below w.heap.size w w' := by
  obtain ⟨z, hz⟩ : ∃ z : Bool, hoF 1 rel bd F D T x = z := ⟨_, rfl⟩
  have HZ := Lib.hid hz
  rw [hz]
  clear hz
  have GE := Lib.hid (ar_ge hok.hk hok.ar)
  have n16 := hok.le
  have OK := Lib.hid hok
  have LX := Lib.hid lx
  have HK := Lib.hid h
  clear hok lx
  obtain ⟨W0, hW0⟩ : ∃ W0, w.alloc (.cells #[.int .i64 1, .slice a1 n1 c1, .slice a2 n2 c2, .slice a3 n3 c3, .int .i64 rel, .int .i64 bd, .slice a6 n6 c6] 33) = W0 := ⟨_, rfl⟩
  have B0 : Hid (Below w.heap.size w W0) := by rw [← hW0]; exact Lib.hid (below_new _ _)
  have I0 : W0.heap[w.heap.size]? = some (.cells #[.int .i64 1, .slice a1 n1 c1, .slice a2 n2 c2, .slice a3 n3 c3, .int .i64 rel, .int .i64 bd, .slice a6 n6 c6] 33 (0, 0)) := by rw [← hW0]; exact heap_alloc_new _ _
  have p0 : W0.cell? ⟨w.heap.size, 0, none⟩ = some (.int .i64 1) := by rw [cell_of_row _ _ _ _ _ _ I0]; rfl
  have p1 : W0.cell? ⟨w.heap.size, 1, none⟩ = some (.slice a1 n1 c1) := by rw [cell_of_row _ _ _ _ _ _ I0]; rfl
  have p2 : W0.cell? ⟨w.heap.size, 2, none⟩ = some (.slice a2 n2 c2) := by rw [cell_of_row _ _ _ _ _ _ I0]; rfl
  have p3 : W0.cell? ⟨w.heap.size, 3, none⟩ = some (.slice a3 n3 c3) := by rw [cell_of_row _ _ _ _ _ _ I0]; rfl
  have p4 : W0.cell? ⟨w.heap.size, 4, none⟩ = some (.int .i64 rel) := by rw [cell_of_row _ _ _ _ _ _ I0]; rfl
  have p5 : W0.cell? ⟨w.heap.size, 5, none⟩ = some (.int .i64 bd) := by rw [cell_of_row _ _ _ _ _ _ I0]; rfl
  have p6 : W0.cell? ⟨w.heap.size, 6, none⟩ = some (.slice a6 n6 c6) := by rw [cell_of_row _ _ _ _ _ _ I0]; rfl
  clear I0
  have P0 := Lib.hid p0; have P1 := Lib.hid p1; have P2 := Lib.hid p2; have P3 := Lib.hid p3; have P4 := Lib.hid p4; have P5 := Lib.hid p5; have P6 := Lib.hid p6
  have KB := Lib.hid (h.below B0.out)
  have XL := Lib.hid xl
  have XA : Hid (InA W0 x ax) := Lib.hid (hx.below B0.out)
  clear hx xl h
  have FN : Hid (F.length = n1) := Lib.hid (by have := OK.out.co.1; simp [coF] at this; omega)
  have E2 : n2 = n1 := by have h1 : F.length = n2 := HK.out.rf.e; have h2 := FN.out; omega
  subst E2
  have SO : Hid (SuOk F x n2) := Lib.hid (su_ok (fun i hi => OK.out.f i (by rw [FN.out]; exact hi)) LX.out n16)
  have RE := Lib.hid (fun (s : Int) (w : World) => related_any s rel bd w)
  go_enter Tryz.func54, Tryz.ntmps54
  go_wp2_with fail
  go_loopw [5, 6] (fun v5 v6 wr => HoA F x n2 W0 v5 v6 wr) (fun v5 v6 _ => n2 - (intOf v6).toNat)
  case atStart => exact ⟨0, Nat.zero_le _, rfl, rfl, Below.refl _ _⟩
  obtain ⟨i, hi, rfl, rfl, hB⟩ := hrel
  have HB := Lib.hid hB
  replace p0 := cell_later hB (Nat.le_refl _) P0.out
  replace p1 := cell_later hB (Nat.le_refl _) P1.out
  replace p2 := cell_later hB (Nat.le_refl _) P2.out
  replace p3 := cell_later hB (Nat.le_refl _) P3.out
  replace p4 := cell_later hB (Nat.le_refl _) P4.out
  replace p5 := cell_later hB (Nat.le_refl _) P5.out
  replace p6 := cell_later hB (Nat.le_refl _) P6.out
  have XB := Lib.hid (XA.out.below hB)
  have FB := Lib.hid (KB.out.f.below hB)
  clear hB
  by_cases ilt : i < n2
  · obtain ⟨gx, ox, rfl, kx⟩ := XB.out (by intro e; have := XL.out; rw [e, List.length_nil] at this; omega)
    have ti := kx i (by rw [XL.out]; exact ilt)
    obtain ⟨gf, of, rfl, kf⟩ := FB.out (by intro e; have := FN.out; simp at e; rw [e] at this; simp at this; omega)
    have tf := kf i (by show i < F.length; rw [FN.out]; exact ilt)
    replace tf : wr.cell? ⟨gf, of + i, none⟩ = some (.int .i64 (F.getD i 0)) := tf
    obtain ⟨o1, o2⟩ := SO.out i ilt
    obtain ⟨s, hs⟩ : ∃ s, suF F x i = s := ⟨_, rfl⟩
    obtain ⟨s', hs'⟩ : ∃ s', suF F x (i + 1) = s' := ⟨_, rfl⟩
    obtain ⟨u, hu⟩ : ∃ u, F.getD i 0 = u := ⟨_, rfl⟩
    obtain ⟨v, hv⟩ : ∃ v, x.getD i 0 = v := ⟨_, rfl⟩
    rw [hu] at tf o1 o2
    rw [hv] at ti o1 o2
    rw [hs, hs'] at o2
    rw [hs]
    have HS := Lib.hid hs'
    have wi : IntKind.i64.wrap ((i : Int) + 1) = (i : Int) + 1 := wrap_in (by omega) (by omega)
    clear hs hs' hu hv kx kf
    go_upto_region 6 with fail
    refine Rg.s0 12 [] fun WD DW => ?_
    refine Rg.t 0 ?_
    refine Rg.t 1 ?_
    refine Rg.t 2 ?_
    refine Rg.t 3 ?_
    refine Rg.t 4 ?_
    refine Rg.t 5 ?_
    refine Rg.t 6 ?_
    refine Rg.t 7 ?_
    refine Rg.t 8 ?_
    refine Rg.t 9 ?_
    refine Rg.t 10 ?_
    refine Rg.t 11 ?_
    refine Rg.l1 ?_
    go_simp
    go_wp2_with fail
    go_roundw
    case rel => exact ⟨i + 1, by omega, by go_num, by rw [HS.out], over HB.out DW⟩
    simp [intOf]; omega
  · obtain rfl : n2 = i := by omega
    obtain ⟨s, hs⟩ : ∃ s, suF F x n2 = s := ⟨_, rfl⟩
    have RS := Lib.hid (RE.out s)
    rw [hs]
    have HS := Lib.hid hs
    clear hs
    go_wp2_with (go_at_call 87; refine (RS.out _).mono ?_; rintro e w9 ⟨rfl, hw⟩; have hw := hw.symm; subst hw)
    go_ret
    exact ⟨by rw [← HZ.out, ← HS.out, ← XL.out]; rfl, over B0.out HB.out⟩
theorem ho10_any {w : World} {rel bd : Int} {V F D : List Int} {T : List (List Int)} {x : List Int} {a1 a2 a3 a6 ax : Option Addr} {n1 c1 n2 c2 n3 c3 n6 c6 cx : Nat} (h : Ka w ⟨10, V, F, D, rel, bd, T⟩ a1 n1 c1 a2 n2 c2 a3 n3 c3 a6 n6 c6) (hx : InA w x ax) (xl : x.length = n1) (hc : n1 ≤ cx) (hok : Hok 10 rel bd F D T n1) (lx : ∀ i, i < n1 → -16384 ≤ x.getD i 0 ∧ x.getD i 0 ≤ 16384) :
    Calls Tryz.prog 54 #[.agg #[.int .i64 10, .slice a1 n1 c1, .slice a2 n2 c2, .slice a3 n3 c3, .int .i64 rel, .int .i64 bd, .slice a6 n6 c6], .slice ax n1 cx] w fun e w' => e = .returned (.bool (hoF 10 rel bd F D T x)) ∧ Below w.heap.size w w' := by
  obtain ⟨z, hz⟩ : ∃ z : Bool, hoF 10 rel bd F D T x = z := ⟨_, rfl⟩
  have HZ := Lib.hid hz
  rw [hz]
  clear hz
  have GE := Lib.hid (ar_ge hok.hk hok.ar)
  have n16 := hok.le
  have OK := Lib.hid hok
  have LX := Lib.hid lx
  have HK := Lib.hid h
  clear hok lx
  obtain ⟨W0, hW0⟩ : ∃ W0, w.alloc (.cells #[.int .i64 10, .slice a1 n1 c1, .slice a2 n2 c2, .slice a3 n3 c3, .int .i64 rel, .int .i64 bd, .slice a6 n6 c6] 33) = W0 := ⟨_, rfl⟩
  have B0 : Hid (Below w.heap.size w W0) := by rw [← hW0]; exact Lib.hid (below_new _ _)
  have I0 : W0.heap[w.heap.size]? = some (.cells #[.int .i64 10, .slice a1 n1 c1, .slice a2 n2 c2, .slice a3 n3 c3, .int .i64 rel, .int .i64 bd, .slice a6 n6 c6] 33 (0, 0)) := by rw [← hW0]; exact heap_alloc_new _ _
  have p0 : W0.cell? ⟨w.heap.size, 0, none⟩ = some (.int .i64 10) := by rw [cell_of_row _ _ _ _ _ _ I0]; rfl
  have p1 : W0.cell? ⟨w.heap.size, 1, none⟩ = some (.slice a1 n1 c1) := by rw [cell_of_row _ _ _ _ _ _ I0]; rfl
  have p2 : W0.cell? ⟨w.heap.size, 2, none⟩ = some (.slice a2 n2 c2) := by rw [cell_of_row _ _ _ _ _ _ I0]; rfl
  have p3 : W0.cell? ⟨w.heap.size, 3, none⟩ = some (.slice a3 n3 c3) := by rw [cell_of_row _ _ _ _ _ _ I0]; rfl
  have p4 : W0.cell? ⟨w.heap.size, 4, none⟩ = some (.int .i64 rel) := by rw [cell_of_row _ _ _ _ _ _ I0]; rfl
  have p5 : W0.cell? ⟨w.heap.size, 5, none⟩ = some (.int .i64 bd) := by rw [cell_of_row _ _ _ _ _ _ I0]; rfl
  have p6 : W0.cell? ⟨w.heap.size, 6, none⟩ = some (.slice a6 n6 c6) := by rw [cell_of_row _ _ _ _ _ _ I0]; rfl
  clear I0
  have P0 := Lib.hid p0; have P1 := Lib.hid p1; have P2 := Lib.hid p2; have P3 := Lib.hid p3; have P4 := Lib.hid p4; have P5 := Lib.hid p5; have P6 := Lib.hid p6
  have KB := Lib.hid (h.below B0.out)
  have XL := Lib.hid xl
  have XA : Hid (InA W0 x ax) := Lib.hid (hx.below B0.out)
  clear hx xl h
  obtain ⟨-, -, -, -, -, -, g10⟩ := GE.out
  have n2le := g10 rfl
  clear g10
  have FN : Hid (F.length + 1 = n1) := Lib.hid (by have := OK.out.co.1; simp [coF] at this; omega)
  have E2 : n2 + 1 = n1 := by have h1 : F.length = n2 := HK.out.rf.e; have h2 := FN.out; omega
  have SO : Hid (SuOk F (x.drop 1) n2) := Lib.hid (su_ok (fun i hi => OK.out.f i (by have := FN.out; omega)) (fun i hi => by rw [drop_at]; exact LX.out (i + 1) (by omega)) (by omega))
  have RE := Lib.hid (fun (s : Int) (w : World) => related_any s rel bd w)
  obtain ⟨gx, ox, rfl, kx⟩ := XA.out (by intro e; have := XL.out; rw [e, List.length_nil] at this; omega)
  clear kx
  go_enter Tryz.func54, Tryz.ntmps54
  go_wp2_with fail
  go_loopw [7, 8] (fun v7 v8 wr => HoB F x n1 W0 v7 v8 wr) (fun v7 v8 _ => n1 - (intOf v8).toNat)
  case atStart => exact ⟨0, by omega, by go_num, rfl, Below.refl _ _⟩
  obtain ⟨m, hm, rfl, rfl, hB⟩ := hrel
  have HB := Lib.hid hB
  replace p0 := cell_later hB (Nat.le_refl _) P0.out
  replace p1 := cell_later hB (Nat.le_refl _) P1.out
  replace p2 := cell_later hB (Nat.le_refl _) P2.out
  replace p3 := cell_later hB (Nat.le_refl _) P3.out
  replace p4 := cell_later hB (Nat.le_refl _) P4.out
  replace p5 := cell_later hB (Nat.le_refl _) P5.out
  replace p6 := cell_later hB (Nat.le_refl _) P6.out
  have FB := Lib.hid (KB.out.f.below hB)
  obtain ⟨gx', ox', e1, kx⟩ := (XA.out.below hB) (by intro e; have := XL.out; rw [e, List.length_nil] at this; omega)
  obtain ⟨rfl, rfl⟩ : gx' = gx ∧ ox' = ox := by
    have := Option.some.inj e1; injection this with q1 q2; exact ⟨q1.symm, q2.symm⟩
  clear hB e1
  have wm : IntKind.i64.wrap ((m : Int) + 1 + 1) = (m : Int) + 1 + 1 := wrap_in (by omega) (by omega)
  have wm1 : IntKind.i64.wrap ((m : Int) + 1 - 1) = (m : Int) := by rw [wrap_in (by omega) (by omega)]; omega
  have wm0 : IntKind.i64.wrap (m : Int) = (m : Int) := wrap_in (by omega) (by omega)
  by_cases mlt : m + 1 < n1
  · have ti := kx (m + 1) (by rw [XL.out]; exact mlt)
    have mn : m < n2 := by omega
    have mi : (m : Int) + 1 < (n1 : Int) := by omega
    have z0 : (0 : Int) ≤ (m : Int) + 1 := by omega
    obtain ⟨gf, of, rfl, kf⟩ := FB.out (by intro e; have := FN.out; simp at e; rw [e] at this; simp at this; omega)
    have tf := kf m (by show m < F.length; have := FN.out; omega)
    replace tf : wr.cell? ⟨gf, of + m, none⟩ = some (.int .i64 (F.getD m 0)) := tf
    obtain ⟨o1, o2⟩ := SO.out m mn
    obtain ⟨s, hs⟩ : ∃ s, suF F (x.drop 1) m = s := ⟨_, rfl⟩
    obtain ⟨s', hs'⟩ : ∃ s', suF F (x.drop 1) (m + 1) = s' := ⟨_, rfl⟩
    obtain ⟨u, hu⟩ : ∃ u, F.getD m 0 = u := ⟨_, rfl⟩
    obtain ⟨v, hv⟩ : ∃ v, x.getD (m + 1) 0 = v := ⟨_, rfl⟩
    rw [hu, drop_at, hv] at o1 o2
    rw [hu] at tf
    rw [hv] at ti
    rw [hs, hs'] at o2
    rw [hs]
    have HS := Lib.hid hs'
    clear hs hs' hu hv kx kf
    go_upto_region 13 with fail
    refine Rg.s0 13 [] fun WD DW => ?_
    refine Rg.t 0 ?_
    refine Rg.t 1 ?_
    refine Rg.t 2 ?_
    refine Rg.t 3 ?_
    refine Rg.t 4 ?_
    refine Rg.t 5 ?_
    refine Rg.t 6 ?_
    refine Rg.t 7 ?_
    refine Rg.t 8 ?_
    refine Rg.t 9 ?_
    refine Rg.t 10 ?_
    refine Rg.t 11 ?_
    refine Rg.t 12 ?_
    refine Rg.l1 ?_
    go_simp
    go_wp2_with fail
    go_roundw
    case rel => exact ⟨m + 1, by omega, by go_num, by rw [HS.out], over HB.out DW⟩
    simp [intOf]; omega
  · have mge : ¬ ((m : Int) + 1 < (n1 : Int)) := by omega
    have EM : Hid (x.length - 1 = m) := Lib.hid (by rw [XL.out]; omega)
    obtain ⟨s, hs⟩ : ∃ s, suF F (x.drop 1) m = s := ⟨_, rfl⟩
    have RS := Lib.hid (RE.out s)
    rw [hs]
    have HS := Lib.hid hs
    have n0 : 0 < n1 := by omega
    have n0i : (0 : Int) < (n1 : Int) := by omega
    clear hs
    have r0 := kx 0 (by rw [XL.out]; omega)
    rw [Nat.add_zero] at r0
    obtain ⟨h0, hh0⟩ : ∃ h0, x.getD 0 0 = h0 := ⟨_, rfl⟩
    have l0 := LX.out 0 (by omega)
    rw [hh0] at r0 l0
    have H0 := Lib.hid hh0
    clear hh0
    clear l0 kx
    obtain ⟨b, hb⟩ : ∃ b, reF s rel bd = b := ⟨_, rfl⟩
    rw [hb] at RS
    have HBB := Lib.hid hb
    clear hb
    have AN : Hid (z = ((h0 == 1 && b) || (h0 == 0 && !b))) := Lib.hid (by rw [← HZ.out]; show ((x.getD 0 0 == 1 && reF (suF F (x.drop 1) (x.length - 1)) rel bd) || (x.getD 0 0 == 0 && !reF (suF F (x.drop 1) (x.length - 1)) rel bd)) = _; rw [EM.out, HS.out, HBB.out, H0.out])
    by_cases q1 : h0 = 1
    · subst q1
      cases b
      all_goals
        go_wp2_with (go_at_call 87; refine (RS.out _).mono ?_; rintro e w9 ⟨rfl, hw⟩; have hw := hw.symm; subst hw)
        go_ret
        exact ⟨by rw [AN.out]; rfl, over B0.out HB.out⟩
    · by_cases q0 : h0 = 0
      · subst q0
        cases b
        all_goals
          go_wp2_with (go_at_call 87; refine (RS.out _).mono ?_; rintro e w9 ⟨rfl, hw⟩; have hw := hw.symm; subst hw)
          go_ret
          exact ⟨by rw [AN.out]; rfl, over B0.out HB.out⟩
      · have d1 : (h0 == 1) = false := by simpa using q1
        have d0 : (h0 == 0) = false := by simpa using q0
        go_wp2_with (go_at_call 87; refine (RS.out _).mono ?_; rintro e w9 ⟨rfl, hw⟩; have hw := hw.symm; subst hw)
        go_ret
        exact ⟨by rw [AN.out, d1, d0]; rfl, over B0.out HB.out⟩
theorem ho2_any {w : World} {rel bd : Int} {V F D : List Int} {T : List (List Int)} {x : List Int} {a1 a2 a3 a6 ax : Option Addr} {n1 c1 n2 c2 n3 c3 n6 c6 cx : Nat} (h : Ka w ⟨2, V, F, D, rel, bd, T⟩ a1 n1 c1 a2 n2 c2 a3 n3 c3 a6 n6 c6) (hx : InA w x ax) (xl : x.length = n1) (hc : n1 ≤ cx) (hok : Hok 2 rel bd F D T n1) (lx : ∀ i, i < n1 → -16384 ≤ x.getD i 0 ∧ x.getD i 0 ≤ 16384) :
    Calls Tryz.prog 54 #[.agg #[.int .i64 2, .slice a1 n1 c1, .slice a2 n2 c2, .slice a3 n3 c3, .int .i64 rel, .int .i64 bd, .slice a6 n6 c6], .slice ax n1 cx] w fun e w' => e = .returned (.bool (hoF 2 rel bd F D T x)) ∧ Below w.heap.size w w' := by
  obtain ⟨z, hz⟩ : ∃ z : Bool, hoF 2 rel bd F D T x = z := ⟨_, rfl⟩
  have HZ := Lib.hid hz
  rw [hz]
  clear hz
  have GE := Lib.hid (ar_ge hok.hk hok.ar)
  have n16 := hok.le
  have OK := Lib.hid hok
  have LX := Lib.hid lx
  have HK := Lib.hid h
  clear hok lx
  obtain ⟨W0, hW0⟩ : ∃ W0, w.alloc (.cells #[.int .i64 2, .slice a1 n1 c1, .slice a2 n2 c2, .slice a3 n3 c3, .int .i64 rel, .int .i64 bd, .slice a6 n6 c6] 33) = W0 := ⟨_, rfl⟩
  have B0 : Hid (Below w.heap.size w W0) := by rw [← hW0]; exact Lib.hid (below_new _ _)
  have I0 : W0.heap[w.heap.size]? = some (.cells #[.int .i64 2, .slice a1 n1 c1, .slice a2 n2 c2, .slice a3 n3 c3, .int .i64 rel, .int .i64 bd, .slice a6 n6 c6] 33 (0, 0)) := by rw [← hW0]; exact heap_alloc_new _ _
  have p0 : W0.cell? ⟨w.heap.size, 0, none⟩ = some (.int .i64 2) := by rw [cell_of_row _ _ _ _ _ _ I0]; rfl
  have p1 : W0.cell? ⟨w.heap.size, 1, none⟩ = some (.slice a1 n1 c1) := by rw [cell_of_row _ _ _ _ _ _ I0]; rfl
  have p2 : W0.cell? ⟨w.heap.size, 2, none⟩ = some (.slice a2 n2 c2) := by rw [cell_of_row _ _ _ _ _ _ I0]; rfl
  have p3 : W0.cell? ⟨w.heap.size, 3, none⟩ = some (.slice a3 n3 c3) := by rw [cell_of_row _ _ _ _ _ _ I0]; rfl
  have p4 : W0.cell? ⟨w.heap.size, 4, none⟩ = some (.int .i64 rel) := by rw [cell_of_row _ _ _ _ _ _ I0]; rfl
  have p5 : W0.cell? ⟨w.heap.size, 5, none⟩ = some (.int .i64 bd) := by rw [cell_of_row _ _ _ _ _ _ I0]; rfl
  have p6 : W0.cell? ⟨w.heap.size, 6, none⟩ = some (.slice a6 n6 c6) := by rw [cell_of_row _ _ _ _ _ _ I0]; rfl
  clear I0
  have P0 := Lib.hid p0; have P1 := Lib.hid p1; have P2 := Lib.hid p2; have P3 := Lib.hid p3; have P4 := Lib.hid p4; have P5 := Lib.hid p5; have P6 := Lib.hid p6
  have KB := Lib.hid (h.below B0.out)
  have XL := Lib.hid xl
  have XA : Hid (InA W0 x ax) := Lib.hid (hx.below B0.out)
  clear hx xl h
  have g2 : n1 = 2 := GE.out.2.1 rfl
  subst g2
  obtain ⟨gx, ox, rfl, kx⟩ := XA.out (by intro e; have := XL.out; rw [e, List.length_nil] at this; omega)
  have r0 := kx 0 (by rw [XL.out]; omega)
  rw [Nat.add_zero] at r0
  obtain ⟨h0, hh0⟩ : ∃ h0, x.getD 0 0 = h0 := ⟨_, rfl⟩
  have l0 := LX.out 0 (by omega)
  rw [hh0] at r0 l0
  have H0 := Lib.hid hh0
  clear hh0
  have r1 := kx 1 (by rw [XL.out]; omega)
  obtain ⟨h1, hh1⟩ : ∃ h1, x.getD 1 0 = h1 := ⟨_, rfl⟩
  have l1 := LX.out 1 (by omega)
  rw [hh1] at r1 l1
  have H1 := Lib.hid hh1
  clear hh1
  have hb := OK.out.b.2.2.1 rfl
  have wa : IntKind.i64.wrap (h1 + bd) = h1 + bd := wrap_in (by omega) (by omega)
  have AN : Hid (z = (h0 == h1 + bd)) := Lib.hid (by rw [← HZ.out]; show (x.getD 0 0 == x.getD 1 0 + bd) = _; rw [H0.out, H1.out])
  clear kx hb l0 l1
  go_enter Tryz.func54, Tryz.ntmps54
  go_upto_region 17 with fail
  refine Rg.s0 10 [] fun WD DW => ?_
  refine Rg.t 0 ?_
  refine Rg.t 1 ?_
  refine Rg.t 2 ?_
  refine Rg.t 3 ?_
  refine Rg.t 4 ?_
  refine Rg.t 5 ?_
  refine Rg.t 6 ?_
  refine Rg.t 7 ?_
  refine Rg.t 8 ?_
  refine Rg.t 9 ?_
  refine Rg.l1 ?_
  go_simp
  go_wp2_with fail
  go_ret
  exact ⟨by rw [AN.out]; rfl, over B0.out DW⟩
theorem ho6_any {w : World} {rel bd : Int} {V F D : List Int} {T : List (List Int)} {x : List Int} {a1 a2 a3 a6 ax : Option Addr} {n1 c1 n2 c2 n3 c3 n6 c6 cx : Nat} (h : Ka w ⟨6, V, F, D, rel, bd, T⟩ a1 n1 c1 a2 n2 c2 a3 n3 c3 a6 n6 c6) (hx : InA w x ax) (xl : x.length = n1) (hc : n1 ≤ cx) (hok : Hok 6 rel bd F D T n1) (lx : ∀ i, i < n1 → -16384 ≤ x.getD i 0 ∧ x.getD i 0 ≤ 16384) :
    Calls Tryz.prog 54 #[.agg #[.int .i64 6, .slice a1 n1 c1, .slice a2 n2 c2, .slice a3 n3 c3, .int .i64 rel, .int .i64 bd, .slice a6 n6 c6], .slice ax n1 cx] w fun e w' => e = .returned (.bool (hoF 6 rel bd F D T x)) ∧ Below w.heap.size w w' := by
  obtain ⟨z, hz⟩ : ∃ z : Bool, hoF 6 rel bd F D T x = z := ⟨_, rfl⟩
  have HZ := Lib.hid hz
  rw [hz]
  clear hz
  have GE := Lib.hid (ar_ge hok.hk hok.ar)
  have n16 := hok.le
  have OK := Lib.hid hok
  have LX := Lib.hid lx
  have HK := Lib.hid h
  clear hok lx
  obtain ⟨W0, hW0⟩ : ∃ W0, w.alloc (.cells #[.int .i64 6, .slice a1 n1 c1, .slice a2 n2 c2, .slice a3 n3 c3, .int .i64 rel, .int .i64 bd, .slice a6 n6 c6] 33) = W0 := ⟨_, rfl⟩
  have B0 : Hid (Below w.heap.size w W0) := by rw [← hW0]; exact Lib.hid (below_new _ _)
  have I0 : W0.heap[w.heap.size]? = some (.cells #[.int .i64 6, .slice a1 n1 c1, .slice a2 n2 c2, .slice a3 n3 c3, .int .i64 rel, .int .i64 bd, .slice a6 n6 c6] 33 (0, 0)) := by rw [← hW0]; exact heap_alloc_new _ _
  have p0 : W0.cell? ⟨w.heap.size, 0, none⟩ = some (.int .i64 6) := by rw [cell_of_row _ _ _ _ _ _ I0]; rfl
  have p1 : W0.cell? ⟨w.heap.size, 1, none⟩ = some (.slice a1 n1 c1) := by rw [cell_of_row _ _ _ _ _ _ I0]; rfl
  have p2 : W0.cell? ⟨w.heap.size, 2, none⟩ = some (.slice a2 n2 c2) := by rw [cell_of_row _ _ _ _ _ _ I0]; rfl
  have p3 : W0.cell? ⟨w.heap.size, 3, none⟩ = some (.slice a3 n3 c3) := by rw [cell_of_row _ _ _ _ _ _ I0]; rfl
  have p4 : W0.cell? ⟨w.heap.size, 4, none⟩ = some (.int .i64 rel) := by rw [cell_of_row _ _ _ _ _ _ I0]; rfl
  have p5 : W0.cell? ⟨w.heap.size, 5, none⟩ = some (.int .i64 bd) := by rw [cell_of_row _ _ _ _ _ _ I0]; rfl
  have p6 : W0.cell? ⟨w.heap.size, 6, none⟩ = some (.slice a6 n6 c6) := by rw [cell_of_row _ _ _ _ _ _ I0]; rfl
  clear I0
  have P0 := Lib.hid p0; have P1 := Lib.hid p1; have P2 := Lib.hid p2; have P3 := Lib.hid p3; have P4 := Lib.hid p4; have P5 := Lib.hid p5; have P6 := Lib.hid p6
  have KB := Lib.hid (h.below B0.out)
  have XL := Lib.hid xl
  have XA : Hid (InA W0 x ax) := Lib.hid (hx.below B0.out)
  clear hx xl h
  have g6 : n1 = 3 := GE.out.2.2.2.1 rfl
  subst g6
  obtain ⟨gx, ox, rfl, kx⟩ := XA.out (by intro e; have := XL.out; rw [e, List.length_nil] at this; omega)
  have r0 := kx 0 (by rw [XL.out]; omega)
  rw [Nat.add_zero] at r0
  obtain ⟨h0, hh0⟩ : ∃ h0, x.getD 0 0 = h0 := ⟨_, rfl⟩
  have l0 := LX.out 0 (by omega)
  rw [hh0] at r0 l0
  have H0 := Lib.hid hh0
  clear hh0
  have r1 := kx 1 (by rw [XL.out]; omega)
  obtain ⟨h1, hh1⟩ : ∃ h1, x.getD 1 0 = h1 := ⟨_, rfl⟩
  have l1 := LX.out 1 (by omega)
  rw [hh1] at r1 l1
  have H1 := Lib.hid hh1
  clear hh1
  have r2 := kx 2 (by rw [XL.out]; omega)
  obtain ⟨h2, hh2⟩ : ∃ h2, x.getD 2 0 = h2 := ⟨_, rfl⟩
  have l2 := LX.out 2 (by omega)
  rw [hh2] at r2 l2
  have H2 := Lib.hid hh2
  clear hh2
  have mm := mul_in 16384 16384 (by omega) (by omega) (by omega) (by omega) (a := h0) (b := h1)
  have wa : IntKind.i64.wrap (h0 * h1) = h0 * h1 := wrap_in (by omega) (by omega)
  have AN : Hid (z = (h0 * h1 == h2)) := Lib.hid (by rw [← HZ.out]; show (x.getD 0 0 * x.getD 1 0 == x.getD 2 0) = _; rw [H0.out, H1.out, H2.out])
  clear kx mm l0 l1 l2
  go_enter Tryz.func54, Tryz.ntmps54
  go_upto_region 21 with fail
  refine Rg.s0 11 [] fun WD DW => ?_
  refine Rg.t 0 ?_
  refine Rg.t 1 ?_
  refine Rg.t 2 ?_
  refine Rg.t 3 ?_
  refine Rg.t 4 ?_
  refine Rg.t 5 ?_
  refine Rg.t 6 ?_
  refine Rg.t 7 ?_
  refine Rg.t 8 ?_
  refine Rg.t 9 ?_
  refine Rg.t 10 ?_
  refine Rg.l1 ?_
  go_simp
  go_wp2_with fail
  go_ret
  exact ⟨by rw [AN.out]; rfl, over B0.out DW⟩
theorem ho4_any {w : World} {rel bd : Int} {V F D : List Int} {T : List (List Int)} {x : List Int} {a1 a2 a3 a6 ax : Option Addr} {n1 c1 n2 c2 n3 c3 n6 c6 cx : Nat} (h : Ka w ⟨4, V, F, D, rel, bd, T⟩ a1 n1 c1 a2 n2 c2 a3 n3 c3 a6 n6 c6) (hx : InA w x ax) (xl : x.length = n1) (hc : n1 ≤ cx) (hok : Hok 4 rel bd F D T n1) (lx : ∀ i, i < n1 → -16384 ≤ x.getD i 0 ∧ x.getD i 0 ≤ 16384) :
    Calls Tryz.prog 54 #[.agg #[.int .i64 4, .slice a1 n1 c1, .slice a2 n2 c2, .slice a3 n3 c3, .int .i64 rel, .int .i64 bd, .slice a6 n6 c6], .slice ax n1 cx] w fun e w' => e = .returned (.bool (hoF 4 rel bd F D T x)) ∧ Below w.heap.size w w' := by
  obtain ⟨z, hz⟩ : ∃ z : Bool, hoF 4 rel bd F D T x = z := ⟨_, rfl⟩
  have HZ := Lib.hid hz
  rw [hz]
  clear hz
  have GE := Lib.hid (ar_ge hok.hk hok.ar)
  have n16 := hok.le
  have OK := Lib.hid hok
  have LX := Lib.hid lx
  have HK := Lib.hid h
  clear hok lx
  obtain ⟨W0, hW0⟩ : ∃ W0, w.alloc (.cells #[.int .i64 4, .slice a1 n1 c1, .slice a2 n2 c2, .slice a3 n3 c3, .int .i64 rel, .int .i64 bd, .slice a6 n6 c6] 33) = W0 := ⟨_, rfl⟩
  have B0 : Hid (Below w.heap.size w W0) := by rw [← hW0]; exact Lib.hid (below_new _ _)
  have I0 : W0.heap[w.heap.size]? = some (.cells #[.int .i64 4, .slice a1 n1 c1, .slice a2 n2 c2, .slice a3 n3 c3, .int .i64 rel, .int .i64 bd, .slice a6 n6 c6] 33 (0, 0)) := by rw [← hW0]; exact heap_alloc_new _ _
  have p0 : W0.cell? ⟨w.heap.size, 0, none⟩ = some (.int .i64 4) := by rw [cell_of_row _ _ _ _ _ _ I0]; rfl
  have p1 : W0.cell? ⟨w.heap.size, 1, none⟩ = some (.slice a1 n1 c1) := by rw [cell_of_row _ _ _ _ _ _ I0]; rfl
  have p2 : W0.cell? ⟨w.heap.size, 2, none⟩ = some (.slice a2 n2 c2) := by rw [cell_of_row _ _ _ _ _ _ I0]; rfl
  have p3 : W0.cell? ⟨w.heap.size, 3, none⟩ = some (.slice a3 n3 c3) := by rw [cell_of_row _ _ _ _ _ _ I0]; rfl
  have p4 : W0.cell? ⟨w.heap.size, 4, none⟩ = some (.int .i64 rel) := by rw [cell_of_row _ _ _ _ _ _ I0]; rfl
  have p5 : W0.cell? ⟨w.heap.size, 5, none⟩ = some (.int .i64 bd) := by rw [cell_of_row _ _ _ _ _ _ I0]; rfl
  have p6 : W0.cell? ⟨w.heap.size, 6, none⟩ = some (.slice a6 n6 c6) := by rw [cell_of_row _ _ _ _ _ _ I0]; rfl
  clear I0
  have P0 := Lib.hid p0; have P1 := Lib.hid p1; have P2 := Lib.hid p2; have P3 := Lib.hid p3; have P4 := Lib.hid p4; have P5 := Lib.hid p5; have P6 := Lib.hid p6
  have KB := Lib.hid (h.below B0.out)
  have XL := Lib.hid xl
  have XA : Hid (InA W0 x ax) := Lib.hid (hx.below B0.out)
  clear hx xl h
  have g4 : 3 ≤ n1 := GE.out.2.2.1 rfl
  obtain ⟨gx, ox, rfl, kx⟩ := XA.out (by intro e; have := XL.out; rw [e, List.length_nil] at this; omega)
  have r0 := kx 0 (by rw [XL.out]; omega)
  rw [Nat.add_zero] at r0
  obtain ⟨h0, hh0⟩ : ∃ h0, x.getD 0 0 = h0 := ⟨_, rfl⟩
  have l0 := LX.out 0 (by omega)
  rw [hh0] at r0 l0
  have H0 := Lib.hid hh0
  clear hh0
  have r1 := kx 1 (by rw [XL.out]; omega)
  obtain ⟨h1, hh1⟩ : ∃ h1, x.getD 1 0 = h1 := ⟨_, rfl⟩
  have l1 := LX.out 1 (by omega)
  rw [hh1] at r1 l1
  have H1 := Lib.hid hh1
  clear hh1
  have wn : IntKind.i64.wrap ((n1 : Int) - 3) = (n1 : Int) - 3 := wrap_in (by omega) (by omega)
  have C := Lib.hid (fun w => within53_any h0 0 ((n1 : Int) - 3) w)
  have AN : Hid (z = (wiF h0 0 ((n1 : Int) - 3) && (x.getD (2 + h0.toNat) 0 == h1))) := Lib.hid (by rw [← HZ.out]; show ((decide (0 ≤ x.getD 0 0) && decide (x.getD 0 0 ≤ (x.length : Int) - 3)) && x.getD (2 + (x.getD 0 0).toNat) 0 == x.getD 1 0) = _; rw [H0.out, H1.out, XL.out]; rfl)
  have n0 : 0 < n1 := by omega
  have n0i : (0 : Int) < (n1 : Int) := by omega
  have n1' : 1 < n1 := by omega
  have n1i : (1 : Int) < (n1 : Int) := by omega
  obtain ⟨b, hb⟩ : ∃ b, wiF h0 0 ((n1 : Int) - 3) = b := ⟨_, rfl⟩
  rw [hb] at C AN
  cases b
  · clear hb kx l0 l1
    go_enter Tryz.func54, Tryz.ntmps54
    go_upto_region 19 with fail
    refine Rg.s0 20 [] fun WD DW => ?_
    refine Rg.t 0 ?_
    refine Rg.t 1 ?_
    refine Rg.t 2 ?_
    refine Rg.t 3 ?_
    refine Rg.t 4 ?_
    refine Rg.t 5 ?_
    refine Rg.c1 6 fun K' hK => ?_
    go_simp
    go_at_call 53
    refine (C.out _).mono ?_
    rintro e w2 ⟨rfl, hw⟩
    have hw := hw.symm
    subst hw
    refine Rg.e1 hK DW ?_
    clear hK K'
    refine Rg.t 7 ?_
    go_simp
    refine Rg.tx 8 ?_
    refine Rg.tx 9 ?_
    refine Rg.tx 10 ?_
    refine Rg.tx 11 ?_
    refine Rg.tx 12 ?_
    refine Rg.tx 13 ?_
    refine Rg.tx 14 ?_
    refine Rg.tx 15 ?_
    refine Rg.tx 16 ?_
    refine Rg.tx 17 ?_
    refine Rg.tx 18 ?_
    refine Rg.t 19 ?_
    refine Rg.l1 ?_
    go_simp
    go_wp2_with fail
    go_ret
    exact ⟨by rw [AN.out]; rfl, over B0.out DW⟩
  · simp only [wiF, Bool.and_eq_true, decide_eq_true_eq] at hb
    obtain ⟨b1, b2⟩ := hb
    obtain ⟨u, rfl⟩ : ∃ u : Nat, h0 = (u : Int) := ⟨h0.toNat, by omega⟩
    have ru := kx (2 + u) (by rw [XL.out]; omega)
    obtain ⟨y, hy⟩ : ∃ y, x.getD (2 + u) 0 = y := ⟨_, rfl⟩
    have un : 2 + u < n1 := by omega
    have uni : (2 : Int) + (u : Int) < (n1 : Int) := by omega
    have uz : (0 : Int) ≤ 2 + (u : Int) := by omega
    have ut : ((2 : Int) + (u : Int)).toNat = 2 + u := by omega
    have wu : IntKind.i64.wrap ((2 : Int) + (u : Int)) = (2 : Int) + (u : Int) := wrap_in (by omega) (by omega)
    rw [Int.toNat_natCast, hy] at AN
    rw [hy] at ru
    clear hy kx b1 b2 l0 l1
    go_enter Tryz.func54, Tryz.ntmps54
    go_upto_region 19 with fail
    refine Rg.s0 20 [] fun WD DW => ?_
    refine Rg.t 0 ?_
    refine Rg.t 1 ?_
    refine Rg.t 2 ?_
    refine Rg.t 3 ?_
    refine Rg.t 4 ?_
    refine Rg.t 5 ?_
    refine Rg.c1 6 fun K' hK => ?_
    go_simp
    go_at_call 53
    refine (C.out _).mono ?_
    rintro e w2 ⟨rfl, hw⟩
    have hw := hw.symm
    subst hw
    refine Rg.e1 hK DW ?_
    clear hK K'
    refine Rg.t 7 ?_
    go_simp
    refine Rg.t 8 ?_
    refine Rg.t 9 ?_
    refine Rg.t 10 ?_
    refine Rg.t 11 ?_
    refine Rg.t 12 ?_
    refine Rg.t 13 ?_
    refine Rg.t 14 ?_
    refine Rg.t 15 ?_
    refine Rg.t 16 ?_
    refine Rg.t 17 ?_
    refine Rg.t 18 ?_
    refine Rg.t 19 ?_
    refine Rg.l1 ?_
    go_simp
    go_wp2_with fail
    go_ret
    exact ⟨by rw [AN.out]; rfl, over B0.out DW⟩
theorem ho9_any {w : World} {rel bd : Int} {V F D : List Int} {T : List (List Int)} {x : List Int} {a1 a2 a3 a6 ax : Option Addr} {n1 c1 n2 c2 n3 c3 n6 c6 cx : Nat} (h : Ka w ⟨9, V, F, D, rel, bd, T⟩ a1 n1 c1 a2 n2 c2 a3 n3 c3 a6 n6 c6) (hx : InA w x ax) (xl : x.length = n1) (hc : n1 ≤ cx) (hok : Hok 9 rel bd F D T n1) (lx : ∀ i, i < n1 → -16384 ≤ x.getD i 0 ∧ x.getD i 0 ≤ 16384) :
    Calls Tryz.prog 54 #[.agg #[.int .i64 9, .slice a1 n1 c1, .slice a2 n2 c2, .slice a3 n3 c3, .int .i64 rel, .int .i64 bd, .slice a6 n6 c6], .slice ax n1 cx] w fun e w' => e = .returned (.bool (hoF 9 rel bd F D T x)) ∧ Below w.heap.size w w' := by
  obtain ⟨z, hz⟩ : ∃ z : Bool, hoF 9 rel bd F D T x = z := ⟨_, rfl⟩
  have HZ := Lib.hid hz
  rw [hz]
  clear hz
  have GE := Lib.hid (ar_ge hok.hk hok.ar)
  have n16 := hok.le
  have OK := Lib.hid hok
  have LX := Lib.hid lx
  have HK := Lib.hid h
  clear hok lx
  obtain ⟨W0, hW0⟩ : ∃ W0, w.alloc (.cells #[.int .i64 9, .slice a1 n1 c1, .slice a2 n2 c2, .slice a3 n3 c3, .int .i64 rel, .int .i64 bd, .slice a6 n6 c6] 33) = W0 := ⟨_, rfl⟩
  have B0 : Hid (Below w.heap.size w W0) := by rw [← hW0]; exact Lib.hid (below_new _ _)
  have I0 : W0.heap[w.heap.size]? = some (.cells #[.int .i64 9, .slice a1 n1 c1, .slice a2 n2 c2, .slice a3 n3 c3, .int .i64 rel, .int .i64 bd, .slice a6 n6 c6] 33 (0, 0)) := by rw [← hW0]; exact heap_alloc_new _ _
  have p0 : W0.cell? ⟨w.heap.size, 0, none⟩ = some (.int .i64 9) := by rw [cell_of_row _ _ _ _ _ _ I0]; rfl
  have p1 : W0.cell? ⟨w.heap.size, 1, none⟩ = some (.slice a1 n1 c1) := by rw [cell_of_row _ _ _ _ _ _ I0]; rfl
  have p2 : W0.cell? ⟨w.heap.size, 2, none⟩ = some (.slice a2 n2 c2) := by rw [cell_of_row _ _ _ _ _ _ I0]; rfl
  have p3 : W0.cell? ⟨w.heap.size, 3, none⟩ = some (.slice a3 n3 c3) := by rw [cell_of_row _ _ _ _ _ _ I0]; rfl
  have p4 : W0.cell? ⟨w.heap.size, 4, none⟩ = some (.int .i64 rel) := by rw [cell_of_row _ _ _ _ _ _ I0]; rfl
  have p5 : W0.cell? ⟨w.heap.size, 5, none⟩ = some (.int .i64 bd) := by rw [cell_of_row _ _ _ _ _ _ I0]; rfl
  have p6 : W0.cell? ⟨w.heap.size, 6, none⟩ = some (.slice a6 n6 c6) := by rw [cell_of_row _ _ _ _ _ _ I0]; rfl
  clear I0
  have P0 := Lib.hid p0; have P1 := Lib.hid p1; have P2 := Lib.hid p2; have P3 := Lib.hid p3; have P4 := Lib.hid p4; have P5 := Lib.hid p5; have P6 := Lib.hid p6
  have KB := Lib.hid (h.below B0.out)
  have XL := Lib.hid xl
  have XA : Hid (InA W0 x ax) := Lib.hid (hx.below B0.out)
  clear hx xl h
  have FN : Hid (F.length = n1) := Lib.hid (by have := OK.out.co.1; simp [coF] at this; omega)
  have DN : Hid (D.length = n1) := Lib.hid (by have := OK.out.co.2; simpa using this)
  have E2 : n2 = n1 := by have h1 : F.length = n2 := HK.out.rf.e; have h2 := FN.out; omega
  subst E2
  have E3 : n3 = n2 := by have h1 : D.length = n3 := HK.out.rd.e; have h2 := DN.out; omega
  subst E3
  have LD : Hid (LdOk F D x n3) := Lib.hid ⟨FN.out, DN.out, XL.out, n16, fun i hi => OK.out.f i (by rw [FN.out]; exact hi), fun i hi => OK.out.d i (by rw [DN.out]; exact hi), LX.out⟩
  have FI := Lib.hid (fits88_any (k := 9) (rel := rel) (bd := bd) (a1 := a1) (n1 := n3) (c1 := c1) (a6 := a6) (n6 := n6) (c6 := c6) KB.out.f KB.out.d XA.out LD.out KB.out.rf.l KB.out.rd.l hc)
  have EZ : Hid (ldF F D x bd n3 = z) := Lib.hid (by rw [← HZ.out, ← XL.out]; rfl)
  rw [EZ.out] at FI
  go_enter Tryz.func54, Tryz.ntmps54
  go_wp2_with (go_at_call 88; refine FI.out.mono ?_; rintro e w9 ⟨rfl, hb⟩; have B9 := Lib.hid hb; clear hb)
  go_ret
  exact ⟨rfl, over B0.out B9.out⟩
theorem ho3_any {w : World} {rel bd : Int} {V F D : List Int} {T : List (List Int)} {x : List Int} {a1 a2 a3 a6 ax : Option Addr} {n1 c1 n2 c2 n3 c3 n6 c6 cx : Nat} (h : Ka w ⟨3, V, F, D, rel, bd, T⟩ a1 n1 c1 a2 n2 c2 a3 n3 c3 a6 n6 c6) (hx : InA w x ax) (xl : x.length = n1) (hc : n1 ≤ cx) (hok : Hok 3 rel bd F D T n1) (lx : ∀ i, i < n1 → -16384 ≤ x.getD i 0 ∧ x.getD i 0 ≤ 16384) :
    Calls Tryz.prog 54 #[.agg #[.int .i64 3, .slice a1 n1 c1, .slice a2 n2 c2, .slice a3 n3 c3, .int .i64 rel, .int .i64 bd, .slice a6 n6 c6], .slice ax n1 cx] w fun e w' => e = .returned (.bool (hoF 3 rel bd F D T x)) ∧ Below w.heap.size w w' := by
  obtain ⟨z, hz⟩ : ∃ z : Bool, hoF 3 rel bd F D T x = z := ⟨_, rfl⟩
  have HZ := Lib.hid hz
  rw [hz]
  clear hz
  have GE := Lib.hid (ar_ge hok.hk hok.ar)
  have n16 := hok.le
  have OK := Lib.hid hok
  have LX := Lib.hid lx
  have HK := Lib.hid h
  clear hok lx
  obtain ⟨W0, hW0⟩ : ∃ W0, w.alloc (.cells #[.int .i64 3, .slice a1 n1 c1, .slice a2 n2 c2, .slice a3 n3 c3, .int .i64 rel, .int .i64 bd, .slice a6 n6 c6] 33) = W0 := ⟨_, rfl⟩
  have B0 : Hid (Below w.heap.size w W0) := by rw [← hW0]; exact Lib.hid (below_new _ _)
  have I0 : W0.heap[w.heap.size]? = some (.cells #[.int .i64 3, .slice a1 n1 c1, .slice a2 n2 c2, .slice a3 n3 c3, .int .i64 rel, .int .i64 bd, .slice a6 n6 c6] 33 (0, 0)) := by rw [← hW0]; exact heap_alloc_new _ _
  have p0 : W0.cell? ⟨w.heap.size, 0, none⟩ = some (.int .i64 3) := by rw [cell_of_row _ _ _ _ _ _ I0]; rfl
  have p1 : W0.cell? ⟨w.heap.size, 1, none⟩ = some (.slice a1 n1 c1) := by rw [cell_of_row _ _ _ _ _ _ I0]; rfl
  have p2 : W0.cell? ⟨w.heap.size, 2, none⟩ = some (.slice a2 n2 c2) := by rw [cell_of_row _ _ _ _ _ _ I0]; rfl
  have p3 : W0.cell? ⟨w.heap.size, 3, none⟩ = some (.slice a3 n3 c3) := by rw [cell_of_row _ _ _ _ _ _ I0]; rfl
  have p4 : W0.cell? ⟨w.heap.size, 4, none⟩ = some (.int .i64 rel) := by rw [cell_of_row _ _ _ _ _ _ I0]; rfl
  have p5 : W0.cell? ⟨w.heap.size, 5, none⟩ = some (.int .i64 bd) := by rw [cell_of_row _ _ _ _ _ _ I0]; rfl
  have p6 : W0.cell? ⟨w.heap.size, 6, none⟩ = some (.slice a6 n6 c6) := by rw [cell_of_row _ _ _ _ _ _ I0]; rfl
  clear I0
  have P0 := Lib.hid p0; have P1 := Lib.hid p1; have P2 := Lib.hid p2; have P3 := Lib.hid p3; have P4 := Lib.hid p4; have P5 := Lib.hid p5; have P6 := Lib.hid p6
  have KB := Lib.hid (h.below B0.out)
  have XL := Lib.hid xl
  have XA : Hid (InA W0 x ax) := Lib.hid (hx.below B0.out)
  clear hx xl h
  have LI := Lib.hid (listed3_any (rel := rel) (bd := bd) (T := T) (a1 := a1) (n1 := n1) (c1 := c1) (a2 := a2) (n2 := n2) (c2 := c2) (a3 := a3) (n3 := n3) (c3 := c3) (a6 := a6) (n6 := n6) (c6 := c6) XA.out XL.out n16 hc )
  have EZ := Lib.hid (HZ.out)
  rw [((hoF_other (k := 0)).1 : hoF 3 rel bd F D T x = _)] at EZ
  rw [EZ.out] at LI
  go_enter Tryz.func54, Tryz.ntmps54
  go_wp2_with (go_at_call 89; refine LI.out.mono ?_; rintro e w9 ⟨rfl, hb⟩; have B9 := Lib.hid hb; clear hb)
  go_ret
  exact ⟨rfl, over B0.out B9.out⟩
theorem ho5_any {w : World} {rel bd : Int} {V F D : List Int} {T : List (List Int)} {x : List Int} {a1 a2 a3 a6 ax : Option Addr} {n1 c1 n2 c2 n3 c3 n6 c6 cx : Nat} (h : Ka w ⟨5, V, F, D, rel, bd, T⟩ a1 n1 c1 a2 n2 c2 a3 n3 c3 a6 n6 c6) (hx : InA w x ax) (xl : x.length = n1) (hc : n1 ≤ cx) (hok : Hok 5 rel bd F D T n1) (lx : ∀ i, i < n1 → -16384 ≤ x.getD i 0 ∧ x.getD i 0 ≤ 16384) :
    Calls Tryz.prog 54 #[.agg #[.int .i64 5, .slice a1 n1 c1, .slice a2 n2 c2, .slice a3 n3 c3, .int .i64 rel, .int .i64 bd, .slice a6 n6 c6], .slice ax n1 cx] w fun e w' => e = .returned (.bool (hoF 5 rel bd F D T x)) ∧ Below w.heap.size w w' := by
  obtain ⟨z, hz⟩ : ∃ z : Bool, hoF 5 rel bd F D T x = z := ⟨_, rfl⟩
  have HZ := Lib.hid hz
  rw [hz]
  clear hz
  have GE := Lib.hid (ar_ge hok.hk hok.ar)
  have n16 := hok.le
  have OK := Lib.hid hok
  have LX := Lib.hid lx
  have HK := Lib.hid h
  clear hok lx
  obtain ⟨W0, hW0⟩ : ∃ W0, w.alloc (.cells #[.int .i64 5, .slice a1 n1 c1, .slice a2 n2 c2, .slice a3 n3 c3, .int .i64 rel, .int .i64 bd, .slice a6 n6 c6] 33) = W0 := ⟨_, rfl⟩
  have B0 : Hid (Below w.heap.size w W0) := by rw [← hW0]; exact Lib.hid (below_new _ _)
  have I0 : W0.heap[w.heap.size]? = some (.cells #[.int .i64 5, .slice a1 n1 c1, .slice a2 n2 c2, .slice a3 n3 c3, .int .i64 rel, .int .i64 bd, .slice a6 n6 c6] 33 (0, 0)) := by rw [← hW0]; exact heap_alloc_new _ _
  have p0 : W0.cell? ⟨w.heap.size, 0, none⟩ = some (.int .i64 5) := by rw [cell_of_row _ _ _ _ _ _ I0]; rfl
  have p1 : W0.cell? ⟨w.heap.size, 1, none⟩ = some (.slice a1 n1 c1) := by rw [cell_of_row _ _ _ _ _ _ I0]; rfl
  have p2 : W0.cell? ⟨w.heap.size, 2, none⟩ = some (.slice a2 n2 c2) := by rw [cell_of_row _ _ _ _ _ _ I0]; rfl
  have p3 : W0.cell? ⟨w.heap.size, 3, none⟩ = some (.slice a3 n3 c3) := by rw [cell_of_row _ _ _ _ _ _ I0]; rfl
  have p4 : W0.cell? ⟨w.heap.size, 4, none⟩ = some (.int .i64 rel) := by rw [cell_of_row _ _ _ _ _ _ I0]; rfl
  have p5 : W0.cell? ⟨w.heap.size, 5, none⟩ = some (.int .i64 bd) := by rw [cell_of_row _ _ _ _ _ _ I0]; rfl
  have p6 : W0.cell? ⟨w.heap.size, 6, none⟩ = some (.slice a6 n6 c6) := by rw [cell_of_row _ _ _ _ _ _ I0]; rfl
  clear I0
  have P0 := Lib.hid p0; have P1 := Lib.hid p1; have P2 := Lib.hid p2; have P3 := Lib.hid p3; have P4 := Lib.hid p4; have P5 := Lib.hid p5; have P6 := Lib.hid p6
  have KB := Lib.hid (h.below B0.out)
  have XL := Lib.hid xl
  have XA : Hid (InA W0 x ax) := Lib.hid (hx.below B0.out)
  clear hx xl h
  have LI := Lib.hid (listed5_any (rel := rel) (bd := bd) (a1 := a1) (n1 := n1) (c1 := c1) (a2 := a2) (n2 := n2) (c2 := c2) (a3 := a3) (n3 := n3) (c3 := c3) (a6 := a6) (n6 := n6) (c6 := c6) XA.out XL.out n16 hc KB.out.t KB.out.rt OK.out.tu)
  have EZ := Lib.hid (HZ.out)
  rw [((hoF_other (k := 0)).2.1 : hoF 5 rel bd F D T x = _)] at EZ
  rw [EZ.out] at LI
  go_enter Tryz.func54, Tryz.ntmps54
  go_wp2_with (go_at_call 89; refine LI.out.mono ?_; rintro e w9 ⟨rfl, hb⟩; have B9 := Lib.hid hb; clear hb)
  go_ret
  exact ⟨rfl, over B0.out B9.out⟩
theorem ho8_any {w : World} {rel bd : Int} {V F D : List Int} {T : List (List Int)} {x : List Int} {a1 a2 a3 a6 ax : Option Addr} {n1 c1 n2 c2 n3 c3 n6 c6 cx : Nat} (h : Ka w ⟨8, V, F, D, rel, bd, T⟩ a1 n1 c1 a2 n2 c2 a3 n3 c3 a6 n6 c6) (hx : InA w x ax) (xl : x.length = n1) (hc : n1 ≤ cx) (hok : Hok 8 rel bd F D T n1) (lx : ∀ i, i < n1 → -16384 ≤ x.getD i 0 ∧ x.getD i 0 ≤ 16384) :
    Calls Tryz.prog 54 #[.agg #[.int .i64 8, .slice a1 n1 c1, .slice a2 n2 c2, .slice a3 n3 c3, .int .i64 rel, .int .i64 bd, .slice a6 n6 c6], .slice ax n1 cx] w fun e w' => e = .returned (.bool (hoF 8 rel bd F D T x)) ∧ Below w.heap.size w w' := by
  obtain ⟨z, hz⟩ : ∃ z : Bool, hoF 8 rel bd F D T x = z := ⟨_, rfl⟩
  have HZ := Lib.hid hz
  rw [hz]
  clear hz
  have GE := Lib.hid (ar_ge hok.hk hok.ar)
  have n16 := hok.le
  have OK := Lib.hid hok
  have LX := Lib.hid lx
  have HK := Lib.hid h
  clear hok lx
  obtain ⟨W0, hW0⟩ : ∃ W0, w.alloc (.cells #[.int .i64 8, .slice a1 n1 c1, .slice a2 n2 c2, .slice a3 n3 c3, .int .i64 rel, .int .i64 bd, .slice a6 n6 c6] 33) = W0 := ⟨_, rfl⟩
  have B0 : Hid (Below w.heap.size w W0) := by rw [← hW0]; exact Lib.hid (below_new _ _)
  have I0 : W0.heap[w.heap.size]? = some (.cells #[.int .i64 8, .slice a1 n1 c1, .slice a2 n2 c2, .slice a3 n3 c3, .int .i64 rel, .int .i64 bd, .slice a6 n6 c6] 33 (0, 0)) := by rw [← hW0]; exact heap_alloc_new _ _
  have p0 : W0.cell? ⟨w.heap.size, 0, none⟩ = some (.int .i64 8) := by rw [cell_of_row _ _ _ _ _ _ I0]; rfl
  have p1 : W0.cell? ⟨w.heap.size, 1, none⟩ = some (.slice a1 n1 c1) := by rw [cell_of_row _ _ _ _ _ _ I0]; rfl
  have p2 : W0.cell? ⟨w.heap.size, 2, none⟩ = some (.slice a2 n2 c2) := by rw [cell_of_row _ _ _ _ _ _ I0]; rfl
  have p3 : W0.cell? ⟨w.heap.size, 3, none⟩ = some (.slice a3 n3 c3) := by rw [cell_of_row _ _ _ _ _ _ I0]; rfl
  have p4 : W0.cell? ⟨w.heap.size, 4, none⟩ = some (.int .i64 rel) := by rw [cell_of_row _ _ _ _ _ _ I0]; rfl
  have p5 : W0.cell? ⟨w.heap.size, 5, none⟩ = some (.int .i64 bd) := by rw [cell_of_row _ _ _ _ _ _ I0]; rfl
  have p6 : W0.cell? ⟨w.heap.size, 6, none⟩ = some (.slice a6 n6 c6) := by rw [cell_of_row _ _ _ _ _ _ I0]; rfl
  clear I0
  have P0 := Lib.hid p0; have P1 := Lib.hid p1; have P2 := Lib.hid p2; have P3 := Lib.hid p3; have P4 := Lib.hid p4; have P5 := Lib.hid p5; have P6 := Lib.hid p6
  have KB := Lib.hid (h.below B0.out)
  have XL := Lib.hid xl
  have XA : Hid (InA W0 x ax) := Lib.hid (hx.below B0.out)
  clear hx xl h
  have LI := Lib.hid (listed8_any (rel := rel) (bd := bd) (T := T) (a1 := a1) (n1 := n1) (c1 := c1) (a2 := a2) (n2 := n2) (c2 := c2) (a3 := a3) (n3 := n3) (c3 := c3) (a6 := a6) (n6 := n6) (c6 := c6) XA.out XL.out n16 hc (GE.out.2.2.2.2.2.1 rfl))
  have EZ := Lib.hid (HZ.out)
  rw [((hoF_other (k := 0)).2.2.1 : hoF 8 rel bd F D T x = _)] at EZ
  rw [EZ.out] at LI
  go_enter Tryz.func54, Tryz.ntmps54
  go_wp2_with (go_at_call 89; refine LI.out.mono ?_; rintro e w9 ⟨rfl, hb⟩; have B9 := Lib.hid hb; clear hb)
  go_ret
  exact ⟨rfl, over B0.out B9.out⟩
theorem ho7_any {w : World} {rel bd : Int} {V F D : List Int} {T : List (List Int)} {x : List Int} {a1 a2 a3 a6 ax : Option Addr} {n1 c1 n2 c2 n3 c3 n6 c6 cx : Nat} (h : Ka w ⟨7, V, F, D, rel, bd, T⟩ a1 n1 c1 a2 n2 c2 a3 n3 c3 a6 n6 c6) (hx : InA w x ax) (xl : x.length = n1) (hc : n1 ≤ cx) (hok : Hok 7 rel bd F D T n1) (lx : ∀ i, i < n1 → -16384 ≤ x.getD i 0 ∧ x.getD i 0 ≤ 16384) :
    Calls Tryz.prog 54 #[.agg #[.int .i64 7, .slice a1 n1 c1, .slice a2 n2 c2, .slice a3 n3 c3, .int .i64 rel, .int .i64 bd, .slice a6 n6 c6], .slice ax n1 cx] w fun e w' => e = .returned (.bool (hoF 7 rel bd F D T x)) ∧ Below w.heap.size w w' := by
  obtain ⟨z, hz⟩ : ∃ z : Bool, hoF 7 rel bd F D T x = z := ⟨_, rfl⟩
  have HZ := Lib.hid hz
  rw [hz]
  clear hz
  have GE := Lib.hid (ar_ge hok.hk hok.ar)
  have n16 := hok.le
  have OK := Lib.hid hok
  have LX := Lib.hid lx
  have HK := Lib.hid h
  clear hok lx
  obtain ⟨W0, hW0⟩ : ∃ W0, w.alloc (.cells #[.int .i64 7, .slice a1 n1 c1, .slice a2 n2 c2, .slice a3 n3 c3, .int .i64 rel, .int .i64 bd, .slice a6 n6 c6] 33) = W0 := ⟨_, rfl⟩
  have B0 : Hid (Below w.heap.size w W0) := by rw [← hW0]; exact Lib.hid (below_new _ _)
  have I0 : W0.heap[w.heap.size]? = some (.cells #[.int .i64 7, .slice a1 n1 c1, .slice a2 n2 c2, .slice a3 n3 c3, .int .i64 rel, .int .i64 bd, .slice a6 n6 c6] 33 (0, 0)) := by rw [← hW0]; exact heap_alloc_new _ _
  have p0 : W0.cell? ⟨w.heap.size, 0, none⟩ = some (.int .i64 7) := by rw [cell_of_row _ _ _ _ _ _ I0]; rfl
  have p1 : W0.cell? ⟨w.heap.size, 1, none⟩ = some (.slice a1 n1 c1) := by rw [cell_of_row _ _ _ _ _ _ I0]; rfl
  have p2 : W0.cell? ⟨w.heap.size, 2, none⟩ = some (.slice a2 n2 c2) := by rw [cell_of_row _ _ _ _ _ _ I0]; rfl
  have p3 : W0.cell? ⟨w.heap.size, 3, none⟩ = some (.slice a3 n3 c3) := by rw [cell_of_row _ _ _ _ _ _ I0]; rfl
  have p4 : W0.cell? ⟨w.heap.size, 4, none⟩ = some (.int .i64 rel) := by rw [cell_of_row _ _ _ _ _ _ I0]; rfl
  have p5 : W0.cell? ⟨w.heap.size, 5, none⟩ = some (.int .i64 bd) := by rw [cell_of_row _ _ _ _ _ _ I0]; rfl
  have p6 : W0.cell? ⟨w.heap.size, 6, none⟩ = some (.slice a6 n6 c6) := by rw [cell_of_row _ _ _ _ _ _ I0]; rfl
  clear I0
  have P0 := Lib.hid p0; have P1 := Lib.hid p1; have P2 := Lib.hid p2; have P3 := Lib.hid p3; have P4 := Lib.hid p4; have P5 := Lib.hid p5; have P6 := Lib.hid p6
  have KB := Lib.hid (h.below B0.out)
  have XL := Lib.hid xl
  have XA : Hid (InA W0 x ax) := Lib.hid (hx.below B0.out)
  clear hx xl h
  have LI := Lib.hid (listed7_any (rel := rel) (bd := bd) (T := T) (a1 := a1) (n1 := n1) (c1 := c1) (a2 := a2) (n2 := n2) (c2 := c2) (a3 := a3) (n3 := n3) (c3 := c3) (a6 := a6) (n6 := n6) (c6 := c6) XA.out XL.out n16 hc (GE.out.2.2.2.2.1 rfl) (OK.out.b.2.2.2 rfl))
  have EZ := Lib.hid (HZ.out)
  rw [((hoF_other (k := 0)).2.2.2.1 : hoF 7 rel bd F D T x = _)] at EZ
  rw [EZ.out] at LI
  go_enter Tryz.func54, Tryz.ntmps54
  go_wp2_with (go_at_call 89; refine LI.out.mono ?_; rintro e w9 ⟨rfl, hb⟩; have B9 := Lib.hid hb; clear hb)
  go_ret
  exact ⟨rfl, over B0.out B9.out⟩
theorem holds54_any {w : World} {c : Con} {x : List Int} {a1 a2 a3 a6 ax : Option Addr} {n1 c1 n2 c2 n3 c3 n6 c6 cx : Nat} (h : Ka w c a1 n1 c1 a2 n2 c2 a3 n3 c3 a6 n6 c6) (hx : InA w x ax) (xl : x.length = n1) (hc : n1 ≤ cx) (hok : Hok c.kind c.rel c.bound c.coefs c.needs c.tuples n1) (lx : ∀ i, i < n1 → -16384 ≤ x.getD i 0 ∧ x.getD i 0 ≤ 16384) :
    Calls Tryz.prog 54 #[.agg #[.int .i64 c.kind, .slice a1 n1 c1, .slice a2 n2 c2, .slice a3 n3 c3, .int .i64 c.rel, .int .i64 c.bound, .slice a6 n6 c6], .slice ax n1 cx] w fun e w' => e = .returned (.bool (hoF c.kind c.rel c.bound c.coefs c.needs c.tuples x)) ∧ Below w.heap.size w w' := by
  obtain ⟨k, V, F, D, rel, bd, T⟩ := c
  have hk : kndF k = true := hok.hk
  rcases knd_cases hk with rfl | rfl | rfl | rfl | rfl | rfl | rfl | rfl | rfl | rfl
  · exact ho1_any h hx xl hc hok lx
  · exact ho2_any h hx xl hc hok lx
  · exact ho3_any h hx xl hc hok lx
  · exact ho4_any h hx xl hc hok lx
  · exact ho5_any h hx xl hc hok lx
  · exact ho6_any h hx xl hc hok lx
  · exact ho7_any h hx xl hc hok lx
  · exact ho8_any h hx xl hc hok lx
  · exact ho9_any h hx xl hc hok lx
  · exact ho10_any h hx xl hc hok lx
end Go.Proofs.YteiohgiecpibhaaGreat
set_option linter.unusedVariables false
set_option linter.unusedSimpArgs false
set_option maxRecDepth 100000
set_option maxHeartbeats 4000000
namespace Go.Proofs.YteiohgiecpibhaaGreat
open Go.RowKit Fdm

theorem srt_pw (x : List Int) : (srt x).Pairwise (· ≤ ·) := by
  have := List.pairwise_mergeSort (le := fun a b : Int => decide (a ≤ b)) (by intro a b c h1 h2; simp at *; omega) (by intro a b; simp; omega) x
  exact this.imp (by intro a b h; simpa using h)
theorem srt_perm (x : List Int) : (srt x).Perm x := List.mergeSort_perm _ _
theorem comp_len {s : List Int} (hs : s.Pairwise (· ≤ ·)) : (Lib.compact s).length = s.length ↔ s.Nodup := by
  have L : (Lib.compact s).length = ((List.range s.length).filter (Lib.keeps s.toArray)).length := by simp [Lib.compact, Lib.compactUpTo]
  have K : ((List.range s.length).filter (Lib.keeps s.toArray)).length = s.length ↔ ∀ j, j < s.length → Lib.keeps s.toArray j = true := by
    have := List.length_filter_eq_length_iff (l := List.range s.length) (p := Lib.keeps s.toArray)
    rw [List.length_range] at this
    rw [this]
    exact ⟨fun h j hj => h j (List.mem_range.2 hj), fun h j hj => h j (List.mem_range.1 hj)⟩
  rw [L, K, List.Nodup, List.pairwise_iff_getElem]
  rw [List.pairwise_iff_getElem] at hs
  have G : ∀ j (h : j < s.length), s.toArray[j]! = s[j] := fun j h => by simp [getElem!_pos, h]
  constructor
  · intro h
    have step : ∀ b (hb : b < s.length) a (hab : a < b), s[a] < s[b] := by
      intro b
      induction b with
      | zero => intro hb a hab; omega
      | succ b ih =>
        intro hb a hab
        have k := h (b + 1) hb
        simp only [Lib.keeps, decide_eq_true_eq] at k
        rw [G _ hb, Nat.add_sub_cancel, G _ (by omega)] at k
        have k' : s[b + 1] ≠ s[b] := by rcases k with k | k; omega; exact k
        have m := hs b (b + 1) (by omega) hb (by omega)
        by_cases e : a = b
        · subst e; omega
        · have := ih (by omega) a (by omega); omega
    intro i j hi hj hij
    have := step j hj i hij
    omega
  · intro h j hj
    simp only [Lib.keeps, decide_eq_true_eq]
    by_cases j0 : j = 0
    · exact Or.inl j0
    · right
      rw [G _ hj, G _ (by omega)]
      exact fun e => h (j - 1) j (by omega) hj (by omega) e.symm
theorem comp_nodup (x : List Int) : (Lib.compact (srt x)).length = x.length ↔ x.Nodup := by
  rw [← srt_len x, comp_len (srt_pw x)]
  exact (srt_perm x).nodup_iff
end Go.Proofs.YteiohgiecpibhaaGreat
set_option linter.unusedVariables false
set_option linter.unusedSimpArgs false
set_option maxRecDepth 100000
set_option maxHeartbeats 4000000
namespace Go.Proofs.YteiohgiecpibhaaGreat
open Go.RowKit Fdm

theorem be_one (bd : Int) (x : List Int) : beU bd x 1 = x.getD 1 0 := by
  show (if (bd = 0 ∧ x.getD 1 0 < x.getD 1 0) ∨ (bd = 1 ∧ x.getD 1 0 < x.getD 1 0) then x.getD 1 0 else x.getD 1 0) = _
  split <;> rfl
def M84L (x : List Int) (n : Nat) (w : World) (v3 v4 : Value) (wr : World) : Prop := ∃ m : Nat, m + 1 ≤ n ∧ v4 = .int .i64 ((m : Int) + 1) ∧ v3 = .int .i64 (beU 0 x (m + 1)) ∧ w = wr
theorem min84_any {w : World} {x : List Int} {gx ox n cx : Nat} (hx : ∀ i, i < n → w.cell? ⟨gx, ox + i, none⟩ = some (.int .i64 (x.getD (i + 1) 0))) (hn : 1 ≤ n) (n16 : n ≤ 16) :
    Calls Tryz.prog 84 #[.slice (some ⟨gx, ox, none⟩) n cx] w fun e w' => e = .returned (.int .i64 (beU 0 x n)) ∧ w' = w := by
  have HX := Lib.hid hx
  have r0 := hx 0 (by omega)
  rw [Nat.add_zero] at r0
  rw [Nat.zero_add] at r0
  clear hx
  obtain ⟨z, hz⟩ : ∃ z, beU 0 x n = z := ⟨_, rfl⟩
  have HZ := Lib.hid hz
  rw [hz]
  clear hz
  have nl : ¬ (n : Int) < 1 := by omega
  have n0 : 0 < n := by omega
  have n0i : (0 : Int) < (n : Int) := by omega
  go_enter Tryz.func84, Tryz.ntmps84
  go_wp2_with fail
  go_loopw [3, 4] (fun v3 v4 wr => M84L x n w v3 v4 wr) (fun v3 v4 _ => n - (intOf v4).toNat)
  case atStart => exact ⟨0, by omega, by go_num, by rw [be_one]; simp, rfl⟩
  obtain ⟨m, hm, rfl, rfl, rfl⟩ := hrel
  have EB : Hid (beU 0 x (m + 1 + 1) = if ((0 : Int) = 0 ∧ x.getD (m + 1 + 1) 0 < beU 0 x (m + 1)) ∨ ((0 : Int) = 1 ∧ beU 0 x (m + 1) < x.getD (m + 1 + 1) 0) then x.getD (m + 1 + 1) 0 else beU 0 x (m + 1)) := Lib.hid rfl
  obtain ⟨t, ht⟩ : ∃ t, beU 0 x (m + 1) = t := ⟨_, rfl⟩
  rw [ht] at EB
  have HT := Lib.hid ht
  rw [ht]
  clear ht
  have wm : IntKind.i64.wrap ((m : Int) + 1 + 1) = (m : Int) + 1 + 1 := wrap_in (by omega) (by omega)
  by_cases mlt : m + 1 < n
  · have rm := HX.out (m + 1) mlt
    have mi : (m : Int) + 1 < (n : Int) := by omega
    have z0 : (0 : Int) ≤ (m : Int) + 1 := by omega
    have mt : ((m : Int) + 1).toNat = m + 1 := by omega
    obtain ⟨y, hy⟩ : ∃ y, x.getD (m + 1 + 1) 0 = y := ⟨_, rfl⟩
    rw [hy] at rm EB
    clear hy
    by_cases q : y < t
    · have E : Hid (beU 0 x (m + 1 + 1) = y) := Lib.hid (by rw [EB.out, if_pos (by omega)])
      have q2 : y ≤ t := by omega
      have q3 : ¬ t < y := by omega
      go_wp2_with fail
      go_roundw
      case rel => exact ⟨m + 1, by omega, by go_num, by rw [E.out]; try simp [q, q2, q3]; try omega, rfl⟩
      simp [intOf]; omega
    · have E : Hid (beU 0 x (m + 1 + 1) = t) := Lib.hid (by rw [EB.out, if_neg (by omega)])
      have q2 : t ≤ y := by omega
      go_wp2_with fail
      go_roundw
      case rel => exact ⟨m + 1, by omega, by go_num, by rw [E.out]; try simp [q, q2]; try omega, rfl⟩
      simp [intOf]; omega
  · have mge : ¬ ((m : Int) + 1 < (n : Int)) := by omega
    have EN : Hid (m + 1 = n) := Lib.hid (by omega)
    go_wp2_with fail
    go_ret
    exact ⟨by rw [← HZ.out, ← EN.out, HT.out]; rfl, rfl⟩
def M85L (x : List Int) (n : Nat) (w : World) (v3 v4 : Value) (wr : World) : Prop := ∃ m : Nat, m + 1 ≤ n ∧ v4 = .int .i64 ((m : Int) + 1) ∧ v3 = .int .i64 (beU 1 x (m + 1)) ∧ w = wr
theorem max85_any {w : World} {x : List Int} {gx ox n cx : Nat} (hx : ∀ i, i < n → w.cell? ⟨gx, ox + i, none⟩ = some (.int .i64 (x.getD (i + 1) 0))) (hn : 1 ≤ n) (n16 : n ≤ 16) :
    Calls Tryz.prog 85 #[.slice (some ⟨gx, ox, none⟩) n cx] w fun e w' => e = .returned (.int .i64 (beU 1 x n)) ∧ w' = w := by
  have HX := Lib.hid hx
  have r0 := hx 0 (by omega)
  rw [Nat.add_zero] at r0
  rw [Nat.zero_add] at r0
  clear hx
  obtain ⟨z, hz⟩ : ∃ z, beU 1 x n = z := ⟨_, rfl⟩
  have HZ := Lib.hid hz
  rw [hz]
  clear hz
  have nl : ¬ (n : Int) < 1 := by omega
  have n0 : 0 < n := by omega
  have n0i : (0 : Int) < (n : Int) := by omega
  go_enter Tryz.func85, Tryz.ntmps85
  go_wp2_with fail
  go_loopw [3, 4] (fun v3 v4 wr => M85L x n w v3 v4 wr) (fun v3 v4 _ => n - (intOf v4).toNat)
  case atStart => exact ⟨0, by omega, by go_num, by rw [be_one]; simp, rfl⟩
  obtain ⟨m, hm, rfl, rfl, rfl⟩ := hrel
  have EB : Hid (beU 1 x (m + 1 + 1) = if ((1 : Int) = 0 ∧ x.getD (m + 1 + 1) 0 < beU 1 x (m + 1)) ∨ ((1 : Int) = 1 ∧ beU 1 x (m + 1) < x.getD (m + 1 + 1) 0) then x.getD (m + 1 + 1) 0 else beU 1 x (m + 1)) := Lib.hid rfl
  obtain ⟨t, ht⟩ : ∃ t, beU 1 x (m + 1) = t := ⟨_, rfl⟩
  rw [ht] at EB
  have HT := Lib.hid ht
  rw [ht]
  clear ht
  have wm : IntKind.i64.wrap ((m : Int) + 1 + 1) = (m : Int) + 1 + 1 := wrap_in (by omega) (by omega)
  by_cases mlt : m + 1 < n
  · have rm := HX.out (m + 1) mlt
    have mi : (m : Int) + 1 < (n : Int) := by omega
    have z0 : (0 : Int) ≤ (m : Int) + 1 := by omega
    have mt : ((m : Int) + 1).toNat = m + 1 := by omega
    obtain ⟨y, hy⟩ : ∃ y, x.getD (m + 1 + 1) 0 = y := ⟨_, rfl⟩
    rw [hy] at rm EB
    clear hy
    by_cases q : t < y
    · have E : Hid (beU 1 x (m + 1 + 1) = y) := Lib.hid (by rw [EB.out, if_pos (by omega)])
      have q2 : t ≤ y := by omega
      have q3 : ¬ y < t := by omega
      go_wp2_with fail
      go_roundw
      case rel => exact ⟨m + 1, by omega, by go_num, by rw [E.out]; try simp [q, q2, q3]; try omega, rfl⟩
      simp [intOf]; omega
    · have E : Hid (beU 1 x (m + 1 + 1) = t) := Lib.hid (by rw [EB.out, if_neg (by omega)])
      have q2 : y ≤ t := by omega
      go_wp2_with fail
      go_roundw
      case rel => exact ⟨m + 1, by omega, by go_num, by rw [E.out]; try simp [q, q2]; try omega, rfl⟩
      simp [intOf]; omega
  · have mge : ¬ ((m : Int) + 1 < (n : Int)) := by omega
    have EN : Hid (m + 1 = n) := Lib.hid (by omega)
    go_wp2_with fail
    go_ret
    exact ⟨by rw [← HZ.out, ← EN.out, HT.out]; rfl, rfl⟩
def Eq83L (t x : List Int) (n : Nat) (w : World) (v13 : Value) (wr : World) : Prop := ∃ j : Nat, j ≤ n ∧ v13 = .int .i64 (j : Int) ∧ (∀ u, u < j → t.getD u 0 = x.getD u 0) ∧ Below w.heap.size w wr
theorem equal83_any {w : World} {t x : List Int} {at' ax : Option Addr} {n m ct cx : Nat} (ht : InA w t at') (tl : t.length = n) (hn : n ≤ 9223372036854775807) (hx : InA w x ax) (xl : x.length = m) :
    Calls Tryz.prog 83 #[.slice at' n ct, .slice ax m cx] w fun e w' => e = .returned (.bool (decide (t = x))) ∧ Below w.heap.size w w' := by
  have HT := Lib.hid ht; have HX := Lib.hid hx; have TL := Lib.hid tl; have XL := Lib.hid xl
  clear ht hx tl xl
  obtain ⟨z, hz⟩ : ∃ z : Bool, decide (t = x) = z := ⟨_, rfl⟩
  have HZ := Lib.hid hz
  rw [hz]
  clear hz
  by_cases e : n = m
  · subst e
    go_enter Tryz.func83, Tryz.ntmps83
    go_wp2_with fail
    go_loopw [13] (fun v wr => Eq83L t x n w v wr) (fun v _ => n - (intOf v).toNat)
    case atStart => exact ⟨0, Nat.zero_le _, rfl, fun u hu => absurd hu (by omega), Below.refl _ _⟩
    obtain ⟨j, hj, rfl, hall, hB⟩ := hrel
    have HA := Lib.hid hall; have HB := Lib.hid hB
    have TA := Lib.hid (HT.out.below hB); have XA := Lib.hid (HX.out.below hB)
    clear hall hB
    by_cases jlt : j < n
    · have wj : IntKind.i64.wrap ((j : Int) + 1) = (j : Int) + 1 := wrap_in (by omega) (by omega)
      obtain ⟨gt, ot, rfl, kt⟩ := TA.out (by intro e; have := TL.out; rw [e, List.length_nil] at this; omega)
      obtain ⟨gx, ox, rfl, kx⟩ := XA.out (by intro e; have := XL.out; rw [e, List.length_nil] at this; omega)
      have t0 := kt j (by rw [TL.out]; exact jlt)
      have t1 := kx j (by rw [XL.out]; exact jlt)
      obtain ⟨u, hu⟩ : ∃ u, t.getD j 0 = u := ⟨_, rfl⟩
      obtain ⟨v, hv⟩ : ∃ v, x.getD j 0 = v := ⟨_, rfl⟩
      rw [hu] at t0
      rw [hv] at t1
      have HU := Lib.hid hu; have HV := Lib.hid hv
      clear hu hv kt kx
      by_cases q : u = v
      · have G : Hid (∀ i, i < j + 1 → t.getD i 0 = x.getD i 0) := Lib.hid (fun i hi => by
          by_cases e : i = j
          · subst e; rw [HU.out, HV.out, q]
          · exact HA.out i (by omega))
        subst q
        go_upto_region 6 with fail
        refine Rg.s0 8 [] fun WD DW => ?_
        refine Rg.t 0 ?_
        refine Rg.t 1 ?_
        refine Rg.t 2 ?_
        refine Rg.t 3 ?_
        refine Rg.t 4 ?_
        refine Rg.t 5 ?_
        refine Rg.t 6 ?_
        refine Rg.t 7 ?_
        refine Rg.l1 ?_
        go_simp
        go_wp2_with fail
        go_roundw
        case rel => exact ⟨j + 1, by omega, by go_num, G.out, over HB.out DW⟩
        simp [intOf]; omega
      · have N : Hid (decide (t = x) = false) := Lib.hid (decide_eq_false (fun e => q (by rw [← HU.out, ← HV.out, e])))
        have dq : (u != v) = true := by simpa using q
        go_upto_region 6 with fail
        refine Rg.s0 8 [] fun WD DW => ?_
        refine Rg.t 0 ?_
        refine Rg.t 1 ?_
        refine Rg.t 2 ?_
        refine Rg.t 3 ?_
        refine Rg.t 4 ?_
        refine Rg.t 5 ?_
        refine Rg.t 6 ?_
        refine Rg.t 7 ?_
        refine Rg.l1 ?_
        go_simp
        go_wp2_with fail
        go_ret
        exact ⟨by rw [← HZ.out, N.out]; rfl, over HB.out DW⟩
    · obtain rfl : n = j := by omega
      have Y : Hid (decide (t = x) = true) := Lib.hid (decide_eq_true (ext_D (by rw [TL.out, XL.out]) (fun u hu => HA.out u (by rw [← XL.out]; exact hu))))
      go_wp2_with fail
      go_ret
      exact ⟨by rw [← HZ.out, Y.out]; rfl, HB.out⟩
  · have N : Hid (decide (t = x) = false) := Lib.hid (decide_eq_false (fun h => e (by rw [← TL.out, ← XL.out, h])))
    have dn : ((n : Int) != (m : Int)) = true := by simp; omega
    go_enter Tryz.func83, Tryz.ntmps83
    go_wp2_with fail
    go_ret
    exact ⟨by rw [← HZ.out, N.out]; rfl, Below.refl _ _⟩
theorem clo82_any {w : World} {t x : List Int} {at' ax : Option Addr} {n m ct cx gb : Nat} (hb : w.cell? ⟨gb, 0, none⟩ = some (.slice ax m cx)) (ht : InA w t at') (tl : t.length = n) (hn : n ≤ 9223372036854775807) (hx : InA w x ax) (xl : x.length = m) :
    Calls Tryz.prog 82 #[.slice at' n ct, .pointer (some ⟨gb, 0, none⟩)] w fun e w' => e = .returned (.bool (decide (t = x))) ∧ Below w.heap.size w w' := by
  have E := Lib.hid (fun (ct : Nat) => equal83_any (ct := ct) (cx := cx) ht tl hn hx xl)
  clear ht hx tl xl
  go_enter Tryz.func82, Tryz.ntmps82
  go_wp2_with (go_at_call 83; refine (E.out _).mono ?_; rintro e w2 ⟨rfl, hb⟩; have B := Lib.hid hb; clear hb)
  go_ret
  exact ⟨rfl, B.out⟩
def Ix82L (T : List (List Int)) (x : List Int) (w : World) (v8 : Value) (wr : World) : Prop := ∃ k : Nat, k ≤ T.length ∧ v8 = .int .i64 (k : Int) ∧ (∀ i, i < k → T.getD i [] ≠ x) ∧ Below w.heap.size w wr
theorem idx82_any {w : World} {T : List (List Int)} {x : List Int} {a ax : Option Addr} {n c gb m cx : Nat} (h : TuA w T a) (hr : Rm T.length n c) (hb : w.cell? ⟨gb, 0, none⟩ = some (.slice ax m cx)) (hx : InA w x ax) (xl : x.length = m) :
    Calls Tryz.prog 108 #[.slice a n c, .func (.func 82) #[] #[.pointer (some ⟨gb, 0, none⟩)]] w fun e w' => (∃ z : Int, e = .returned (.int .i64 z) ∧ (0 ≤ z ↔ T.contains x = true)) ∧ Below w.heap.size w w' := by
  obtain ⟨hn, h0, h1⟩ := hr
  have H := Lib.hid h; have N := Lib.hid hn; have HB0 := Lib.hid hb; have HX := Lib.hid hx; have XL := Lib.hid xl
  clear h hn hb hx xl
  go_enter Tryz.func108, Tryz.ntmps108
  go_wp2_with fail
  go_loopw [8] (fun v8 wr => Ix82L T x w v8 wr) (fun v8 _ => n - (intOf v8).toNat)
  case atStart => exact ⟨0, Nat.zero_le _, rfl, fun i hi => absurd hi (Nat.not_lt_zero _), Below.refl _ _⟩
  obtain ⟨k, hk, rfl, hf, hB⟩ := hrel
  have G0 := Lib.hid hf; have HB := Lib.hid hB
  rw [N.out] at hk
  have TA := Lib.hid (H.out.below hB); have XA := Lib.hid (HX.out.below hB); have BC := Lib.hid (cell_later hB (Nat.le_refl _) HB0.out)
  clear hf hB
  by_cases hlt : k < n
  · obtain ⟨g, o, rfl, dd⟩ := TA.out (by intro e; have := N.out; rw [e] at this; simp at this; omega)
    obtain ⟨ai, ci, p0, u1, u2, u3⟩ := dd k (by rw [N.out]; exact hlt)
    clear dd
    obtain ⟨m', hm⟩ : ∃ m', (T.getD k []).length = m' := ⟨_, rfl⟩
    rw [hm] at p0 u2
    have CF := Lib.hid (clo82_any (ct := ci) BC.out u1 hm (Nat.le_trans u2 u3) XA.out XL.out)
    clear hm u1 u2 u3
    have wk : IntKind.i64.wrap ((k : Int) + 1) = (k : Int) + 1 := wrap_in (by omega) (by omega)
    by_cases pb : T.getD k [] = x
    · have CF2 : Hid (Calls Tryz.prog 82 #[.slice ai m' ci, .pointer (some ⟨gb, 0, none⟩)] wr fun e w' => e = .returned (.bool true) ∧ Below wr.heap.size wr w') := Lib.hid (by have := CF.out; rw [decide_eq_true pb] at this; exact this)
      have AN := Lib.hid (contains_yes (i := k) (by rw [N.out]; exact hlt) pb)
      clear pb CF
      go_wp2_with fail
      refine CF2.out.mono ?_
      rintro e w2 ⟨rfl, hb⟩
      have B2 := Lib.hid hb
      clear hb
      go_wp2_with fail
      go_ret
      exact ⟨⟨k, rfl, ⟨fun _ => AN.out, fun _ => by omega⟩⟩, over HB.out B2.out⟩
    · have CF2 : Hid (Calls Tryz.prog 82 #[.slice ai m' ci, .pointer (some ⟨gb, 0, none⟩)] wr fun e w' => e = .returned (.bool false) ∧ Below wr.heap.size wr w') := Lib.hid (by have := CF.out; rw [decide_eq_false pb] at this; exact this)
      have G : Hid (∀ i, i < k + 1 → T.getD i [] ≠ x) := Lib.hid (fun i hi => by
        by_cases e : i = k
        · subst e; exact pb
        · exact G0.out i (by omega))
      clear pb CF
      go_wp2_with fail
      refine CF2.out.mono ?_
      rintro e w2 ⟨rfl, hb⟩
      have B2 := Lib.hid hb
      clear hb
      go_wp2_with fail
      go_roundw
      case rel => exact ⟨k + 1, by rw [N.out]; omega, by go_num, G.out, over HB.out B2.out⟩
      simp [intOf]; omega
  · obtain rfl : n = k := by omega
    have NO := Lib.hid (contains_no (T := T) (x := x) (fun u hu => G0.out u (by rw [← N.out]; exact hu)))
    go_wp2_with fail
    go_ret
    exact ⟨⟨-1, rfl, ⟨fun q => absurd q (by omega), fun q => by rw [NO.out] at q; cases q⟩⟩, HB.out⟩
theorem con82_any {w : World} {T : List (List Int)} {x : List Int} {a ax : Option Addr} {n c gb m cx : Nat} (h : TuA w T a) (hr : Rm T.length n c) (hb : w.cell? ⟨gb, 0, none⟩ = some (.slice ax m cx)) (hx : InA w x ax) (xl : x.length = m) :
    Calls Tryz.prog 81 #[.slice a n c, .func (.func 82) #[] #[.pointer (some ⟨gb, 0, none⟩)]] w fun e w' => e = .returned (.bool (T.contains x)) ∧ Below w.heap.size w w' := by
  have C := Lib.hid (idx82_any h hr hb hx xl)
  clear h hr hb hx xl
  go_enter Tryz.func81, Tryz.ntmps81
  go_wp2_with fail
  refine C.out.mono ?_
  rintro e w2 ⟨⟨z, rfl, hz⟩, hb⟩
  have HX := Lib.hid hz
  have B2 := Lib.hid hb
  clear hz hb
  go_wp2_with fail
  go_ret
  refine ⟨congrArg (fun b => Ending.returned (Value.bool b)) ?_, B2.out⟩
  rw [Bool.eq_iff_iff, ← HX.out]
  simp
end Go.Proofs.YteiohgiecpibhaaGreat
