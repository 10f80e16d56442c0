/- The reference's implied and ListBefore. -/
import Derived.Test.YthhogbligfmpdaaPt
import Derived.Test.YthhogbligfmpdaaYw
set_option linter.unusedVariables false
set_option linter.unusedSimpArgs false
namespace Go.Proofs.Ythhogbligfmpdaa
open Go.RowKit Bd

theorem lit_cases {l : Int} (h : Bd.Lit l) : ∃ q : Nat, 1 ≤ q ∧ q ≤ 16 ∧ lk l = 16 - q ∧ ((l = (q : Int) ∧ lb l = false) ∨ (l = -(q : Int) ∧ lb l = true)) := by
  obtain ⟨h1, h2, h3⟩ := h
  by_cases hp : 0 < l
  · refine ⟨l.toNat, by omega, by omega, ?_, Or.inl ⟨by omega, by simp [lb, hp]⟩⟩
    unfold lk lv kO; rw [if_pos hp]; omega
  · refine ⟨(-l).toNat, by omega, by omega, ?_, Or.inr ⟨by omega, by simp [lb, hp]⟩⟩
    unfold lk lv kO; rw [if_neg hp]; omega

theorem i_any {cl : List Int} {i : Nat} (h : i < cl.length) (f : Int → Bool) : (cl.take (i + 1)).any f = ((cl.take i).any f || f (cl.getD i 0)) := by
  rw [take_snoc h, List.any_append]; simp
theorem n_all {L : List Nat} {i : Nat} (h : i < L.length) (f : Nat → Bool) : (L.take (i + 1)).all f = ((L.take i).all f && f (L.getD i 0)) := by
  rw [List.take_succ_eq_append_getElem h, List.all_append, List.getD_eq_getElem?_getD, List.getElem?_eq_getElem h]; simp
theorem n_stop {L : List Nat} {i : Nat} (h : i < L.length) {f : Nat → Bool} (hf : f (L.getD i 0) = false) : L.all f = false := by
  rw [List.all_eq_false]
  refine ⟨L[i], List.getElem_mem h, ?_⟩
  rw [List.getD_eq_getElem?_getD, List.getElem?_eq_getElem h] at hf
  simp only [Option.getD_some] at hf
  rw [hf]; simp
def RiL (L : List Nat) (cl : List Int) (n : Nat) (iv : Value) : Prop := ∃ k : Nat, k ≤ n ∧ iv = .int .i64 k ∧ (L.take k).all (fun x => cl.any (lt1 x)) = true
def RjL (cl : List Int) (x n : Nat) (sv iv : Value) : Prop := ∃ k : Nat, k ≤ n ∧ iv = .int .i64 k ∧ sv = .bool ((cl.take k).any (lt1 x))

theorem map_getN {L : List Nat} {k : Nat} (h : k < L.length) : (L.map Int.ofNat).getD k 0 = ((L.getD k 0 : Nat) : Int) := by
  rw [List.getD_eq_getElem?_getD, List.getD_eq_getElem?_getD, List.getElem?_map, List.getElem?_eq_getElem h]; rfl

set_option maxRecDepth 100000 in
set_option maxHeartbeats 1000000 in
theorem rimplied_any {w : World} {L : List Nat} {cl : List Int} {a1 a2 : Option Addr} {n1 n2 c1 c2 : Nat} (h1 : IAt w (L.map Int.ofNat) a1) (h2 : IAt w cl a2) (e1 : L.length = n1) (e2 : cl.length = n2) (m1 : n1 ≤ 9223372036854775807) (m2 : n2 ≤ 9223372036854775807) (hx : ∀ x ∈ L, x < 65536) (hc : ∀ l ∈ cl, Bd.Lit l) :
    Calls Try.prog 97 #[.slice a1 n1 c1, .slice a2 n2 c2] w fun e w' => e = .returned (.bool (rimp L cl)) ∧ w = w' := by
  have H1 := Lib.hid h1; clear h1
  have H2 := Lib.hid h2; clear h2
  have E1 := Lib.hid e1; clear e1
  have E2 := Lib.hid e2; clear e2
  have HX := Lib.hid hx; clear hx
  have HC := Lib.hid hc; clear hc
  go_enter Try.func97, Try.ntmps97
  go_wp2_with fail
  go_loop [5] (fun iv => RiL L cl n1 iv) (fun iv => n1 - (intOf iv).toNat)
  case atStart => exact ⟨0, by omega, rfl, rfl⟩
  case round =>
    obtain ⟨k, hk, rfl, hal⟩ := hrel
    have AL := Lib.hid hal; clear hal
    by_cases hlt : k < n1
    · have i1 : (k : Int) < (n1 : Int) := by omega
      have hl1 : k < L.length := by rw [E1.out]; exact hlt
      obtain ⟨b1, o1, rfl, d1⟩ := H1.out (by intro e; rw [List.map_eq_nil_iff] at e; rw [e] at hl1; simp at hl1)
      have p1 := d1 k (by simpa using hl1)
      rw [map_getN hl1] at p1
      clear d1
      have AS := Lib.hid (n_all hl1 fun x => cl.any (lt1 x))
      have AT : Hid (cl.any (lt1 (L.getD k 0)) = false → rimp L cl = false) := fun h => n_stop (f := fun x => cl.any (lt1 x)) hl1 h
      have hxl : L.getD k 0 < 65536 := HX.out _ (by rw [List.getD_eq_getElem?_getD, List.getElem?_eq_getElem hl1]; exact List.getElem_mem hl1)
      generalize L.getD k 0 = x at *
      go_wp2_with fail
      go_loop [7, 8] (fun sv iv => RjL cl x n2 sv iv) (fun _ iv => n2 - (intOf iv).toNat)
      case atStart => exact ⟨0, by omega, rfl, rfl⟩
      case round =>
        obtain ⟨i, hi, rfl, rfl⟩ := hrel
        by_cases hin : i < n2
        · have j1 : (i : Int) < (n2 : Int) := by omega
          have hl2 : i < cl.length := by rw [E2.out]; exact hin
          obtain ⟨b2, o2, rfl, d2⟩ := H2.out (by intro e; rw [e] at hl2; simp at hl2)
          have p2 := d2 i hl2
          clear d2
          have AN := Lib.hid (i_any hl2 (lt1 x))
          have LT := Lib.hid (HC.out _ (getI_mem hl2))
          generalize cl.getD i 0 = l at *
          generalize (cl.take i).any (lt1 x) = s0 at *
          obtain ⟨q, q1, q2, q3, q4⟩ := lit_cases LT.out
          have BO := bit_of x (16 - q) hxl
          have s1 : (0 : Int) ≤ 16 - (q : Int) := by omega
          have s2 : (16 : Int) - (q : Int) ≤ 15 := by omega
          rcases q4 with ⟨rfl, q5⟩ | ⟨rfl, q5⟩
          · have g1 : (0 : Int) < (q : Int) := by omega
            have g2 : ¬ ((q : Int) < 0) := by omega
            cases hb : x.testBit (16 - q)
            · have RR : Hid (lt1 x (q : Int) = false) := by show _ = _; unfold lt1; rw [q3, hb, q5]; rfl
              rw [hb] at BO
              simp only [Bool.toNat_false, Int.ofNat_eq_natCast, Int.natCast_zero] at BO
              clear hb q3 q5 LT
              go_wp2_with fail
              go_round
              case rel => exact ⟨i + 1, by omega, by go_num, by rw [AN.out, RR.out, Bool.or_false]⟩
              case measure => simp [intOf]; omega
            · have RR : Hid (lt1 x (q : Int) = true) := by show _ = _; unfold lt1; rw [q3, hb, q5]; rfl
              rw [hb] at BO
              simp only [Bool.toNat_true, Int.ofNat_eq_natCast, Int.natCast_one] at BO
              clear hb q3 q5 LT
              go_wp2_with fail
              go_round
              case rel => exact ⟨i + 1, by omega, by go_num, by rw [AN.out, RR.out, Bool.or_true]⟩
              case measure => simp [intOf]; omega
          · have g1 : ¬ ((0 : Int) < -(q : Int)) := by omega
            have g2 : -(q : Int) < 0 := by omega
            cases hb : x.testBit (16 - q)
            · have RR : Hid (lt1 x (-(q : Int)) = true) := by show _ = _; unfold lt1; rw [q3, hb, q5]; rfl
              rw [hb] at BO
              simp only [Bool.toNat_false, Int.ofNat_eq_natCast, Int.natCast_zero] at BO
              clear hb q3 q5 LT
              go_wp2_with fail
              go_round
              case rel => exact ⟨i + 1, by omega, by go_num, by rw [AN.out, RR.out, Bool.or_true]⟩
              case measure => simp [intOf]; omega
            · have RR : Hid (lt1 x (-(q : Int)) = false) := by show _ = _; unfold lt1; rw [q3, hb, q5]; rfl
              rw [hb] at BO
              simp only [Bool.toNat_true, Int.ofNat_eq_natCast, Int.natCast_one] at BO
              clear hb q3 q5 LT
              go_wp2_with fail
              go_round
              case rel => exact ⟨i + 1, by omega, by go_num, by rw [AN.out, RR.out, Bool.or_false]⟩
              case measure => simp [intOf]; omega
        · obtain rfl : i = n2 := by omega
          have j1 : ¬ ((i : Int) < (i : Int)) := by omega
          have TK : Hid (cl.take i = cl) := List.take_of_length_le (by rw [E2.out]; exact Nat.le_refl _)
          cases hb : cl.any (lt1 x)
          · have RS := Lib.hid (AT.out hb)
            have SV : (cl.take i).any (lt1 x) = false := by rw [TK.out]; exact hb
            rw [SV]
            clear SV hb
            go_wp2_with fail
            go_ret
            exact ⟨by rw [RS.out]; rfl, rfl⟩
          · have SV : (cl.take i).any (lt1 x) = true := by rw [TK.out]; exact hb
            have A2 : Hid ((L.take (k + 1)).all (fun x => cl.any (lt1 x)) = true) := by show _ = _; rw [AS.out, AL.out, hb]; rfl
            rw [SV]
            clear SV hb
            go_wp2_with fail
            go_round
            case rel => exact ⟨k + 1, by omega, by go_num, A2.out⟩
            case measure => simp [intOf]; omega
    · obtain rfl : k = n1 := by omega
      have i1 : ¬ ((k : Int) < (k : Int)) := by omega
      have RS : Hid (rimp L cl = true) := by
        show _ = _
        have := AL.out
        rw [List.take_of_length_le (by rw [E1.out]; exact Nat.le_refl _)] at this
        exact this
      go_wp2_with fail
      go_ret
      exact ⟨by rw [RS.out]; rfl, rfl⟩

def LbL (l1 l2 : List Int) (n1 n2 : Nat) (w : World) (iv : Value) (wr : World) : Prop := ∃ k : Nat, k ≤ n1 ∧ k ≤ n2 ∧ iv = .int .i64 k ∧ cmpL l1 l2 = cmpL (l1.drop k) (l2.drop k) ∧ Qt w wr

set_option maxRecDepth 100000 in
set_option maxHeartbeats 400000 in
theorem before_any {w : World} {l1 l2 : List Int} {a1 a2 : Option Addr} {n1 n2 c1 c2 : Nat} (h1 : IAt w l1 a1) (h2 : IAt w l2 a2) (e1 : l1.length = n1) (e2 : l2.length = n2) (m1 : n1 ≤ 9223372036854775807) (m2 : n2 ≤ 9223372036854775807) :
    Calls Try.prog 79 #[.slice a1 n1 c1, .slice a2 n2 c2] w fun e w' => e = .returned (.bool (lbf l1 l2)) ∧ Qt w w' := by
  have H1 := Lib.hid h1; clear h1
  have H2 := Lib.hid h2; clear h2
  have E1 := Lib.hid e1; clear e1
  have E2 := Lib.hid e2; clear e2
  have NC : Hid (∀ c : Int, cmpL l1 l2 = c → lbf l1 l2 = decide (c < 0)) := fun c h => by unfold lbf; rw [h]
  go_enter Try.func79, Try.ntmps79
  go_wp2_with fail
  go_loopw [5] (fun iv wr => LbL l1 l2 n1 n2 w iv wr) (fun iv _ => n1 - (intOf iv).toNat)
  case atStart => exact ⟨0, by omega, by omega, rfl, rfl, Qt.refl _⟩
  case round =>
    obtain ⟨k, hk1, hk2, rfl, hc, hq⟩ := hrel
    have HC := Lib.hid hc; clear hc
    have HQ := Lib.hid hq; clear hq
    by_cases hlt : k < n1
    · have i1 : (k : Int) < (n1 : Int) := by omega
      have hl1 : k < l1.length := by rw [E1.out]; exact hlt
      obtain ⟨b1, o1, rfl, d1⟩ := H1.out (by intro e; rw [e] at hl1; simp at hl1)
      have p1 := HQ.out.cell (d1 k hl1)
      clear d1
      have D1 := Lib.hid (drop_getD hl1)
      generalize l1.getD k 0 = x at *
      by_cases hg : k < n2
      · have i3 : (k : Int) < (n2 : Int) := by omega
        have hl2 : k < l2.length := by rw [E2.out]; exact hg
        obtain ⟨b2, o2, rfl, d2⟩ := H2.out (by intro e; rw [e] at hl2; simp at hl2)
        have p2 := HQ.out.cell (d2 k hl2)
        clear d2
        have D2 := Lib.hid (drop_getD hl2)
        generalize l2.getD k 0 = y at *
        have z0 : (0 : Int) ≤ (k : Int) := by omega
        by_cases q0 : x = y
        · subst q0
          have RS : Hid (cmpL l1 l2 = cmpL (l1.drop (k + 1)) (l2.drop (k + 1))) := by show _ = _; rw [HC.out, D1.out, D2.out]; simp only [cmpL]; rw [if_neg (by omega), if_neg (by omega)]
          go_wp2_with fail
          go_quiet (fail)
          go_wp2_with fail
          go_roundw
          case rel => exact ⟨k + 1, by omega, by omega, by go_num, RS.out, HQ.out.drewN _⟩
          case measure => simp [intOf]; omega
        · have qb : (x != y) = true := by simpa using q0
          have RS : Hid (lbf l1 l2 = decide (x < y)) := by
            show _ = _
            by_cases q1 : x < y
            · rw [NC.out (-1) (by rw [HC.out, D1.out, D2.out]; simp only [cmpL]; rw [if_pos q1])]; simp [q1]
            · rw [NC.out 1 (by rw [HC.out, D1.out, D2.out]; simp only [cmpL]; rw [if_neg q1, if_pos (by omega)])]; simp [q1]
          clear q0
          go_upto_region 4 with fail
          go_quiet (fail)
          have HQ2 := Lib.hid (HQ.out.drewN nq)
          have r1 : (wr.drewN nq).cell? ⟨b1, o1 + k, none⟩ = some (.int .i64 x) := p1
          have r2 : (wr.drewN nq).cell? ⟨b2, o2 + k, none⟩ = some (.int .i64 y) := p2
          clear p1 p2 HQ
          generalize wr.drewN nq = w2 at *
          go_wp2_with fail
          go_quiet (fail)
          go_wp2_with fail
          go_ret
          exact ⟨by rw [RS.out]; rfl, HQ2.out.drewN _⟩
      · obtain rfl : k = n2 := by omega
        have RS := Lib.hid (NC.out 1 (by
          rw [HC.out, D1.out, show l2.drop k = [] from List.drop_of_length_le (by rw [E2.out]; exact Nat.le_refl _)]
          rfl))
        have i2 : ¬ ((k : Int) < (k : Int)) := by omega
        have i3 : ¬ ((n1 : Int) < (k : Int)) := by omega
        go_wp2_with fail
        go_ret
        exact ⟨by rw [RS.out]; rfl, HQ.out⟩
    · obtain rfl : k = n1 := by omega
      have i1 : ¬ ((k : Int) < (k : Int)) := by omega
      have D1 : Hid (l1.drop k = []) := List.drop_of_length_le (by rw [E1.out]; exact Nat.le_refl _)
      by_cases hg : k < n2
      · have i2 : (k : Int) < (n2 : Int) := by omega
        have RS := Lib.hid (NC.out (-1) (by
          rw [HC.out, D1.out, drop_getD (by rw [E2.out]; exact hg)]
          rfl))
        go_wp2_with fail
        go_ret
        exact ⟨by rw [RS.out]; rfl, HQ.out⟩
      · obtain rfl : k = n2 := by omega
        have RS := Lib.hid (NC.out 0 (by
          rw [HC.out, D1.out, show l2.drop k = [] from List.drop_of_length_le (by rw [E2.out]; exact Nat.le_refl _)]
          rfl))
        go_wp2_with fail
        go_ret
        exact ⟨by rw [RS.out]; rfl, HQ.out⟩

end Go.Proofs.Ythhogbligfmpdaa
