/- fetterlocklaw6.made. -/
import Derived.Test.YtijdglogadnbcaaKa
set_option linter.unusedVariables false
set_option linter.unusedSimpArgs false
set_option maxRecDepth 100000
set_option maxHeartbeats 40000000
namespace Go.Proofs.Ytijdglogadnbcaa
open Go.RowKit Nt Bl
/-- What made comes to. -/
def MadeP (w : World) (u : Int) (l : List Rw) (e : Ending) (w' : World) : Prop :=
  ∃ p all rows m rc ra, e = .returned (.tuple #[.pointer (some ⟨p, 0, none⟩), .bool all]) ∧ SyR w' p (min u.toNat 24) m rc ra (.slice none 0 0) rows ∧ (all = true ↔ u ≤ 24 ∧ Adm (min u.toNat 24) l) ∧ (all = true → rows = rws l) ∧ Below w.heap.size w w'
def MdA (w : World) (u : Int) (p : Nat) (v5 v6 : Value) (wr : World) : Prop :=
  ∃ (i : Nat) (b : Bool), i ≤ 100 ∧ i ≤ u.toNat ∧ v6 = .int .i64 (i : Int) ∧ v5 = .bool b ∧ b = decide (i ≤ 24) ∧ SyB wr p (min i 24) (.slice none 0 0) (.slice none 0 0) ∧ Below w.heap.size w wr
def MdB (w : World) (u : Int) (l : List Rw) (p : Nat) (v5 v9 : Value) (wr : World) : Prop :=
  ∃ (j : Nat) (all : Bool) (rows : List Rl) (m rc : Nat) (ra : Option Addr), j ≤ l.length ∧ v9 = .int .i64 (j : Int) ∧ v5 = .bool all ∧ SyR wr p (min u.toNat 24) m rc ra (.slice none 0 0) rows ∧ (all = true ↔ u ≤ 24 ∧ Adm (min u.toNat 24) (l.take j)) ∧ (all = true → rows = rws (l.take j)) ∧ Below w.heap.size w wr
theorem Adm.nil (n : Nat) : Adm n [] := ⟨fun R hR => by simp at hR, by simp, fun _ => 0, fun r hr => by simp [rws, lns] at hr⟩
theorem adm_step {u : Int} {n j m : Nat} {l : List Rw} {rows : List Rl} {all : Bool} {R : Rw} {P : Prop} (hj : j < l.length) (hA : all = true ↔ u ≤ 24 ∧ Adm n (l.take j)) (hR : all = true → rows = rws (l.take j)) (hm : rows.length = m) (eR : rwAt l j = R) (hP : P ↔ rowN (n : Int) R.rel R.l R.B = 0 ∧ m < 40 ∧ ∃ x, Sol (lns (rows ++ [R.q])) n x) :
    (P → (all = true ↔ u ≤ 24 ∧ Adm n (l.take (j + 1)))) ∧ (¬ P → ¬ (u ≤ 24 ∧ Adm n (l.take (j + 1)))) ∧ (all = true → rows ++ [R.q] = rws (l.take (j + 1))) := by
  subst eR
  cases all with
  | false =>
    have na : ¬ (u ≤ 24 ∧ Adm n (l.take j)) := fun q => by have := hA.2 q; cases this
    have nb : ¬ (u ≤ 24 ∧ Adm n (l.take (j + 1))) := fun q => na ⟨q.1, Classical.byContradiction fun c => adm_not c q.2⟩
    exact ⟨fun _ => ⟨fun q => (by cases q), fun q => absurd q nb⟩, fun _ => nb, fun q => (by cases q)⟩
  | true =>
    obtain ⟨a, b⟩ := hA.1 rfl
    obtain rfl := hR rfl
    have mj : m = j := by rw [← hm]; unfold rws; rw [List.length_map, List.length_take]; omega
    subst mj
    have AN := adm_next hj b
    exact ⟨fun q => ⟨fun _ => ⟨a, AN.2 (hP.1 q)⟩, fun _ => rfl⟩, fun q c => q (hP.2 (AN.1 c.2)), fun _ => (rws_next hj).symm⟩
/-- System.Post, told beforehand. -/
theorem post_yes {w : World} {p n m rc nc cc nn c mm d : Nat} {ra ca a b : Option Addr} {a' : Option Addr} {k' c' : Nat} {rows : List Rl} {rel : Int} {l : List Cf} {B : Raw}
    (h : SyR w p n m rc ra (.slice a' k' c') rows) (hl : CfAt w l ca) (hB : RwAt w B a nn c b mm d) (hln : l.length = nc) (hc : nc ≤ cc) (hc2 : cc ≤ 9223372036854775807) (hP : rowN (n : Int) rel l B = 0 ∧ m < 40 ∧ ∃ x, Sol (lns (rows ++ [rowQ rel l B])) n x) :
    Calls Try.prog 10 #[.pointer (some ⟨p, 0, none⟩), .agg #[.slice ca nc cc, .int .i64 rel, .bool B.neg, .slice a nn c, .slice b mm d]] w fun e w' =>
      e = .returned (.int .i64 0) ∧ (∃ ra rc, SyR w' p n (m + 1) rc ra (.slice a' k' c') (rows ++ [rowQ rel l B])) ∧ (∃ w1 v, Below w.heap.size w w1 ∧ w' = w1.setCell ⟨p, 1, none⟩ v) := by
  refine (post_any h hl hB hln hc hc2).mono ?_
  rintro e w' ⟨z, rfl, ⟨hz, _, hi⟩ | ⟨rfl, _, _, hS, hW⟩⟩
  · exact absurd (hi.2 hP) hz
  · exact ⟨rfl, hS, hW⟩
theorem post_no {w : World} {p n m rc nc cc nn c mm d : Nat} {ra ca a b : Option Addr} {a' : Option Addr} {k' c' : Nat} {rows : List Rl} {rel : Int} {l : List Cf} {B : Raw}
    (h : SyR w p n m rc ra (.slice a' k' c') rows) (hl : CfAt w l ca) (hB : RwAt w B a nn c b mm d) (hln : l.length = nc) (hc : nc ≤ cc) (hc2 : cc ≤ 9223372036854775807) (hP : ¬ (rowN (n : Int) rel l B = 0 ∧ m < 40 ∧ ∃ x, Sol (lns (rows ++ [rowQ rel l B])) n x)) :
    Calls Try.prog 10 #[.pointer (some ⟨p, 0, none⟩), .agg #[.slice ca nc cc, .int .i64 rel, .bool B.neg, .slice a nn c, .slice b mm d]] w fun e w' => ∃ z : Int, e = .returned (.int .i64 z) ∧ ¬ z = 0 ∧ Below w.heap.size w w' := by
  refine (post_any h hl hB hln hc hc2).mono ?_
  rintro e w' ⟨z, rfl, ⟨hz, hb, _⟩ | ⟨rfl, h1, h2, ⟨_, _, hS⟩, _⟩⟩
  · exact ⟨z, rfl, hz, hb⟩
  · exact absurd ⟨h1, h2, hS.sol⟩ hP
theorem mades_any {w : World} {l : List Rw} {ra : Option Addr} {k cc : Nat} {u : Int} (h : RwsAt w l ra) (hk : l.length = k) (hc : k ≤ cc) (hc2 : cc ≤ 9223372036854775807) :
    Calls Try.prog 4 #[.slice ra k cc, .int .i64 u] w (MadeP w u l) := by
  have H0 := Lib.hid h
  have HK := Lib.hid hk
  obtain ⟨Q, hQ⟩ : ∃ Q : Ending → World → Prop, Q = MadeP w u l := ⟨_, rfl⟩
  rw [← hQ]
  have HQ := Lib.hid hQ
  clear h hk hQ
  go_enter Try.func4, Try.ntmps4
  go_upto_region 2 with (go_at_call 8; refine (snew_any _).mono ?_; rintro e w1 ⟨p, rfl, pge, sy1, B1⟩; have SY1 := Lib.hid sy1; have BW1 := Lib.hid B1; have PG := Lib.hid pge; clear sy1 B1 pge)
  go_wp2_with fail
  go_loopw [5, 6] (fun v5 v6 wr => MdA w u p v5 v6 wr) (fun _ v _ => 100 - (intOf v).toNat)
  case atStart => exact ⟨0, true, by omega, by omega, rfl, rfl, rfl, SY1.out, BW1.out⟩
  case round =>
    obtain ⟨i, b, hi, hiu, rfl, rfl, hb, hS, hB⟩ := hrel
    have SYI := Lib.hid hS
    have BWI := Lib.hid hB
    clear hS hB SY1 BW1
    by_cases c0 : (i : Int) < u ∧ (i : Int) < 100
    · obtain ⟨c1, c2⟩ := c0
      by_cases c3 : i < 24
      · obtain rfl : b = true := by rw [hb]; simp; omega
        clear hb
        have SYJ : Hid (SyB wr p i (.slice none 0 0) (.slice none 0 0)) := by
          have := SYI.out; rwa [Nat.min_eq_left (by omega)] at this
        clear SYI
        go_upto_region 7 with (go_at_call 9; refine (var_any SYJ.out (by omega)).mono ?_; rintro e w2 (⟨h, _⟩ | ⟨_, rfl, rfl⟩); omega)
        have SY2 : Hid (SyB (wr.setCell ⟨p, 0, none⟩ (.int .i64 ((i : Int) + 1))) p (i + 1) (.slice none 0 0) (.slice none 0 0)) := SYJ.out.set0
        have BW2 : Hid (Below w.heap.size w (wr.setCell ⟨p, 0, none⟩ (.int .i64 ((i : Int) + 1)))) := BWI.out.setCell (p := ⟨p, 0, none⟩) PG.out (.int .i64 ((i : Int) + 1))
        clear SYJ BWI
        generalize wr.setCell ⟨p, 0, none⟩ (.int .i64 ((i : Int) + 1)) = W2 at *
        go_wp2_with fail
        go_roundw
        case rel => exact ⟨i + 1, true, by omega, by omega, by go_num, rfl, by simp; omega, by rw [Nat.min_eq_left (by omega)]; exact SY2.out, BW2.out⟩
        case measure => simp [intOf]; omega
      · have SYJ : Hid (SyB wr p 24 (.slice none 0 0) (.slice none 0 0)) := by
          have := SYI.out; rwa [Nat.min_eq_right (by omega)] at this
        clear SYI hb
        cases b
        all_goals
          go_upto_region 7 with (go_at_call 9; refine (var_any SYJ.out (by omega)).mono ?_; rintro e w2 (⟨_, rfl, rfl⟩ | ⟨h, _⟩); rotate_left; omega)
          go_wp2_with fail
          go_roundw
          case rel => exact ⟨i + 1, false, by omega, by omega, by go_num, rfl, by simp; omega, by rw [Nat.min_eq_right (by omega)]; exact SYJ.out, BWI.out⟩
          case measure => simp [intOf]; omega
    · have hx : (¬ (i : Int) < u) ∨ ((i : Int) < u ∧ ¬ (i : Int) < 100) := by omega
      have en : min i 24 = min u.toNat 24 := by omega
      have eb : b = true ↔ u ≤ 24 := by rw [hb]; simp; omega
      rw [en] at SYI
      have ST := Lib.hid (SyR.start SYI.out (by omega))
      have EB := Lib.hid eb
      clear hb eb en SYI c0
      rcases hx with c1 | ⟨c1, c2⟩
      all_goals
        go_wp2_with fail
        go_loopw [5, 9] (fun v5 v9 wr => MdB w u l p v5 v9 wr) (fun _ v _ => k - (intOf v).toNat)
        case atStart => exact ⟨0, b, [], 0, 0, none, Nat.zero_le _, rfl, rfl, ST.out, by rw [EB.out]; simp [Adm.nil], fun _ => rfl, BWI.out⟩
        case round =>
          obtain ⟨j, all, rows, m, rc, ra', hj, rfl, rfl, hS, hA, hR, hB⟩ := hrel
          have SYI := Lib.hid hS
          have HA := Lib.hid hA
          have HR := Lib.hid hR
          have BWJ := Lib.hid hB
          rw [HK.out] at hj
          clear hS hA hR hB
          by_cases hlt : j < k
          · obtain ⟨g, o, ca, nc, N, rfl, q5, p0, p1, p2, p3, p4⟩ := H0.out.row (i := j) (by rw [HK.out]; exact hlt)
            have p0 := cell_later BWJ.out (Nat.le_refl _) p0
            have p1 := cell_later BWJ.out (Nat.le_refl _) p1
            have p2 := cell_later BWJ.out (Nat.le_refl _) p2
            have p3 := cell_later BWJ.out (Nat.le_refl _) p3
            have p4 := cell_later BWJ.out (Nat.le_refl _) p4
            have Q5' := Lib.hid (q5.below BWJ.out)
            clear q5
            obtain ⟨R, hRR⟩ : ∃ R, rwAt l j = R := ⟨_, rfl⟩
            have AS := Lib.hid (adm_step (P := rowN ((min u.toNat 24 : Nat) : Int) R.rel R.l R.B = 0 ∧ m < 40 ∧ ∃ x, Sol (lns (rows ++ [R.q])) (min u.toNat 24) x) (by rw [HK.out]; exact hlt) HA.out HR.out SYI.out.len hRR Iff.rfl)
            rw [hRR] at p0 p1 p2 Q5'
            clear hRR HA HR
            have j0 : (0 : Int) ≤ (j : Int) := by omega
            have j1 : (j : Int) < (k : Int) := by omega
            by_cases hP : rowN ((min u.toNat 24 : Nat) : Int) R.rel R.l R.B = 0 ∧ m < 40 ∧ ∃ x, Sol (lns (rows ++ [R.q])) (min u.toNat 24) x
            · have C := Lib.hid (post_yes SYI.out Q5'.out.co Q5'.out.bd (rel := R.rel) rfl Q5'.out.le Q5'.out.cap hP)
              have A1 := Lib.hid (AS.out.1 hP)
              have A2 := Lib.hid AS.out.2.2
              clear hP AS SYI
              go_wp2_with (go_at_call 10; refine C.out.mono ?_; rintro e w2 ⟨rfl, ⟨ra2, rc2, hS⟩, w3, v3, hB3, rfl⟩; have S2 := Lib.hid hS; have B2 := Lib.hid ((Below.over BWJ.out BWJ.out.size hB3).setCell (p := ⟨p, 1, none⟩) PG.out v3); clear hS hB3 p0 p1 p2 p3 p4 C)
              go_roundw
              case rel => exact ⟨j + 1, all, _, m + 1, rc2, ra2, by rw [HK.out]; omega, by go_num, rfl, S2.out, A1.out, A2.out, B2.out⟩
              case measure => simp [intOf]; omega
            · have C := Lib.hid (post_no SYI.out Q5'.out.co Q5'.out.bd (rel := R.rel) rfl Q5'.out.le Q5'.out.cap hP)
              have A1 := Lib.hid (AS.out.2.1 hP)
              clear hP AS
              go_wp2_with (go_at_call 10; refine C.out.mono ?_; rintro e w2 ⟨z, rfl, hz0, hB2⟩; have S2 := Lib.hid (SYI.out.below hB2); have B2 := Lib.hid (Below.over BWJ.out BWJ.out.size hB2); clear hB2 p0 p1 p2 p3 p4 C)
              go_roundw
              case rel => exact ⟨j + 1, false, rows, m, rc, ra', by rw [HK.out]; omega, by go_num, rfl, S2.out, ⟨fun q => (by cases q), fun q => absurd q A1.out⟩, fun q => (by cases q), B2.out⟩
              case measure => simp [intOf]; omega
          · obtain rfl : k = j := by omega
            go_wp2_with fail
            rw [HQ.out]
            refine ⟨p, all, rows, m, rc, ra', rfl, SYI.out, ?_, ?_, BWJ.out⟩
            · have := HA.out; rwa [List.take_of_length_le (by rw [HK.out]; exact Nat.le_refl _)] at this
            · have := HR.out; rwa [List.take_of_length_le (by rw [HK.out]; exact Nat.le_refl _)] at this
end Go.Proofs.Ytijdglogadnbcaa
