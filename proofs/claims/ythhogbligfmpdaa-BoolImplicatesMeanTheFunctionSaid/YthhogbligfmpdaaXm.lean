/- The reference's DiagramFault. -/
import Derived.Test.YthhogbligfmpdaaXk
import Derived.Deep.DeepCutAuto
set_option linter.unusedVariables false
set_option linter.unusedSimpArgs false
namespace Go.Proofs.Ythhogbligfmpdaa
open Go.RowKit Bd

def Df2 (ds : List Nd) (n : Nat) (W : World) (iv : Value) (wr : World) : Prop :=
  ∃ k : Nat, k ≤ n ∧ iv = .int .i64 k ∧ (∀ i : Nat, i < k → ¬ rBad ds i) ∧ Below W.heap.size W wr
def Df3 (ds : List Nd) (k : Nat) (W : World) (jv : Value) (wr : World) : Prop :=
  ∃ j : Nat, j ≤ k ∧ jv = .int .i64 j ∧ (∀ i : Nat, i < j → nd ds i ≠ nd ds k) ∧ Qt W wr
def C15 (ds : List Nd) (k : Nat) (W : World) (c : Value) (wx : World) : Prop := ∃ b : Bool, c = .bool b ∧ (b = true → lo ds k = hi ds k ∨ kBad ds k) ∧ (b = false → lo ds k ≠ hi ds k ∧ ¬ kBad ds k) ∧ Qt W wx
def Df4 (L : List Int) (n : Nat) (iv : Value) : Prop := ∃ i : Nat, i ≤ n ∧ iv = .int .i64 i ∧ ∀ j : Nat, j < i → L.getD j 0 = (j : Int)

theorem upto_of {L : List Int} {n : Nat} (hl : L.length = n) (h : ∀ j : Nat, j < n → L.getD j 0 = (j : Int)) : L = upto n :=
  eq_upto hl fun i hi => by
    have := h i hi
    rw [List.getD_eq_getElem?_getD, List.getElem?_eq_getElem (by omega)] at this
    rw [List.getElem?_eq_getElem (by omega)]
    simpa using this
theorem upto_get' {n i : Nat} (h : i < n) : (upto n).getD i 0 = (i : Int) := by
  rw [List.getD_eq_getElem?_getD, List.getElem?_eq_getElem (by rw [upto_len]; exact h), upto_get h]; rfl

set_option maxRecDepth 100000 in
set_option maxHeartbeats 4000000 in
theorem fault_any {w : World} {ds : List Nd} {a : Option Addr} {n cap : Nat} {root : Int} (hd : DAt w ds a) (hn : ds.length = n) (hl : n ≤ 9223372036854775807) :
    Calls Try.prog 29 #[.agg #[.slice a n cap, .int .i64 root]] w (CdPost w (chk ds root)) := by
  have HD := Lib.hid hd; clear hd
  have HN := Lib.hid hn; clear hn
  have X0 : Hid ((w.alloc (.cells #[.slice a n cap, .int .i64 root] 27)).heap[w.heap.size]? = some (.cells #[.slice a n cap, .int .i64 root] 27 (0, 0))) := heap_alloc_new w _
  have B0 : Hid (Below w.heap.size w (w.alloc (.cells #[.slice a n cap, .int .i64 root] 27))) := (Below.refl _ _).alloc (Nat.le_refl _) _
  have S0 : Hid ((w.alloc (.cells #[.slice a n cap, .int .i64 root] 27)).heap.size = w.heap.size + 1) := by show _ = _; simp
  by_cases h2k : 2000 < n
  · have e := chk_size (ns := ds) (r := root) (by rw [HN.out]; exact h2k)
    rw [e]
    have i1 : (2000 : Int) < (n : Int) := by omega
    go_enter Try.func29, Try.ntmps29
    go_wp2_with fail
    go_ret
    exact ⟨rfl, B0.out⟩
  · have i1 : ¬ ((2000 : Int) < (n : Int)) := by omega
    have SZ : Hid (¬ 2000 < ds.length) := by rw [HN.out]; exact h2k
    go_enter Try.func29, Try.ntmps29
    go_wp2_with fail
    generalize w.alloc (.cells #[.slice a n cap, .int .i64 root] 27) = W at *
    go_loopw [3] (fun iv wr => Cd1 ds n W iv wr) (fun iv _ => n - (intOf iv).toNat)
    case atStart => exact ⟨0, by omega, rfl, rfl, Below.refl _ _⟩
    case round =>
      obtain ⟨k, hk, rfl, f1, f2⟩ := hrel
      have F1 := Lib.hid f1; clear f1
      have F2 := Lib.hid f2; clear f2
      have BW := Lib.hid (Below.over B0.out B0.out.size F2.out)
      have hsz : w.heap.size < wr.heap.size := by have := F2.out.size; rw [S0.out] at this; omega
      obtain ⟨y0, y1, _⟩ := cells2 ((F2.out.block _ (by rw [S0.out]; omega)).trans X0.out)
      by_cases hkn : k < n
      · have j1 : (k : Int) < (n : Int) := by omega
        have hkd : k < ds.length := by rw [HN.out]; exact hkn
        obtain ⟨bd, od, rfl, d1⟩ := HD.out (by intro e; rw [e] at hkd; simp at hkd)
        obtain ⟨p1, p2, p3⟩ := kid_cells BW.out (d1 k hkd)
        clear d1
        obtain ⟨⟨v, l, h⟩, hx⟩ : ∃ x, nd ds k = x := ⟨_, rfl⟩
        rw [hx] at p1 p2 p3
        simp only at p1 p2 p3
        have HX := Lib.hid hx; clear hx
        have RT := Lib.hid (fun (e : Int) (he : ndErr k (v, l, h) = e) (hne : e ≠ 0) => (chk_first (r := root) SZ.out F1.out hkd (by rw [HX.out]; exact he) hne : chk ds root = e))
        have BN : Hid (Below w.heap.size w (wr.alloc (.cells #[.int .i64 v, .int .i64 l, .int .i64 h] 77))) := BW.out.alloc (by omega) _
        by_cases q1 : v < 0
        · have ee := RT.out 1 (ndErr_one (Or.inl q1)) (by omega)
          rw [ee]
          clear ee
          go_wp2_with fail
          go_ret
          exact ⟨rfl, BN.out⟩
        · by_cases q2 : 16 ≤ v
          · have ee := RT.out 1 (ndErr_one (Or.inr q2)) (by omega)
            rw [ee]
            clear ee
            go_wp2_with fail
            go_ret
            exact ⟨rfl, BN.out⟩
          · by_cases q3 : l < -2
            · have ee := RT.out 2 (ndErr_two (by omega) (Or.inl q3)) (by omega)
              rw [ee]
              clear ee
              go_wp2_with fail
              go_ret
              exact ⟨rfl, BN.out⟩
            · by_cases q4 : (k : Int) ≤ l
              · have ee := RT.out 2 (ndErr_two (by omega) (Or.inr (Or.inl q4))) (by omega)
                rw [ee]
                clear ee
                go_wp2_with fail
                go_ret
                exact ⟨rfl, BN.out⟩
              · by_cases q5 : h < -2
                · have ee := RT.out 2 (ndErr_two (by omega) (Or.inr (Or.inr (Or.inl q5)))) (by omega)
                  rw [ee]
                  clear ee
                  go_wp2_with fail
                  go_ret
                  exact ⟨rfl, BN.out⟩
                · by_cases q6 : (k : Int) ≤ h
                  · have ee := RT.out 2 (ndErr_two (by omega) (Or.inr (Or.inr (Or.inr q6)))) (by omega)
                    rw [ee]
                    clear ee
                    go_wp2_with fail
                    go_ret
                    exact ⟨rfl, BN.out⟩
                  · have NE := Lib.hid (ndErr_ok (i := k) (v := v) (l := l) (h := h) (by omega) (by omega))
                    go_wp2_with fail
                    go_roundw
                    case rel => exact ⟨k + 1, by omega, by go_num, by rw [firstErr_next F1.out, HX.out]; exact NE.out, F2.out.alloc (by have := S0.out; omega) _⟩
                    case measure => simp [intOf]; omega
      · have ekn : n = k := by omega
        subst ekn
        have FE : Hid (firstErr ds ds.length = 0) := by rw [HN.out]; exact F1.out
        clear F1
        go_wp2_with fail
        go_loopw [5] (fun iv wr => Df2 ds n W iv wr) (fun iv _ => n - (intOf iv).toNat)
        case atStart => exact ⟨0, by omega, rfl, fun i hi => absurd hi (by omega), F2.out⟩
        case round =>
          clear y0 y1 hk hkn hsz
          obtain ⟨k, hk, rfl, g1, g2⟩ := hrel
          have G1 := Lib.hid g1; clear g1
          clear BW F2
          have F2 := Lib.hid g2; clear g2
          have BW := Lib.hid (Below.over B0.out B0.out.size F2.out)
          have hsz : w.heap.size < wr.heap.size := by have := F2.out.size; rw [S0.out] at this; omega
          have XB := Lib.hid ((F2.out.block _ (by rw [S0.out]; omega)).trans X0.out)
          obtain ⟨y0, y1, _⟩ := cells2 XB.out
          by_cases hkn : k < n
          · have j1 : (k : Int) < (n : Int) := by omega
            have hkd : k < ds.length := by rw [HN.out]; exact hkn
            obtain ⟨bd, od, rfl, d1⟩ := HD.out (by intro e; rw [e] at hkd; simp at hkd)
            obtain ⟨p1, p2, p3⟩ := kid_cells BW.out (d1 k hkd)
            have D1 := Lib.hid d1; clear d1
            have ec := firstErr_zero FE.out k hkd
            obtain ⟨⟨v, l, h⟩, hx⟩ : ∃ x, nd ds k = x := ⟨_, rfl⟩
            rw [hx] at p1 p2 p3 ec
            simp only at p1 p2 p3
            obtain ⟨z1, z2, z3, z4, z5, z6⟩ := ndErr_cases ec
            clear ec
            have KB : Hid (cBad ds v l ∨ cBad ds v h → kBad ds k) := by unfold kBad lo Bd.hi; rw [hx]; exact id
            have KC : Hid (¬ cBad ds v l → ¬ cBad ds v h → ¬ kBad ds k) := by unfold kBad lo Bd.hi; rw [hx]; intro a b c; exact c.elim a b
            have HX := Lib.hid hx; clear hx
            have X4' : Hid (Below wr.heap.size wr (wr.alloc (.cells #[.int .i64 v, .int .i64 l, .int .i64 h] 77))) := (Below.refl _ _).alloc (Nat.le_refl _) _
            have X1 := Lib.hid (heap_alloc_new wr (.cells #[.int .i64 v, .int .i64 l, .int .i64 h] 77))
            go_upto_region 15 with fail
            generalize wr.alloc (.cells #[.int .i64 v, .int .i64 l, .int .i64 h] 77) = W2 at *
            have BW2 := Lib.hid (Below.over BW.out BW.out.size X4'.out)
            have F22 := Lib.hid (Below.over F2.out F2.out.size X4'.out)
            have Q0 := Lib.hid (Qt.refl W2)
            clear p1 p2 p3 y0 y1
            obtain ⟨y0, y1, _⟩ := cells2 ((X4'.out.block _ hsz).trans XB.out)
            obtain ⟨c0, c1, c2⟩ := cells3 X1.out
            have Y0 := Lib.hid y0
            have C0 := Lib.hid c0
            have C1 := Lib.hid c1
            have C2 := Lib.hid c2
            clear XB X4' BW F2 X1 y1
            go_cut [104] (fun c wx => C15 ds k W2 c wx)
            case first =>
              by_cases hlh : l = h
              · have EE : Hid (lo ds k = Bd.hi ds k) := by unfold lo Bd.hi; rw [HX.out]; exact hlh
                subst hlh
                go_quiet (fail)
                go_wp2_with fail
                go_meet
                exact ⟨true, rfl, fun _ => Or.inl EE.out, fun e => by simp at e, Q0.out.drewN _⟩
              · have LH : Hid (lo ds k ≠ Bd.hi ds k) := by unfold lo Bd.hi; rw [HX.out]; exact hlh
                have lhb : (l == h) = false := by simpa using hlh
                clear hlh
                by_cases x0 : l < 0
                · have gd : decide ((0 : Int) ≤ l) = false := by simp; omega
                  have LOK : Hid (¬ cBad ds v l) := fun e => absurd e.1 (by omega)
                  by_cases x1 : h < 0
                  · have gd2 : decide ((0 : Int) ≤ h) = false := by simp; omega
                    have KOK : Hid (¬ kBad ds k) := KC.out LOK.out (fun e => absurd e.1 (by omega))
                    go_quiet (fail)
                    go_wp2_with fail
                    go_meet
                    exact ⟨false, rfl, fun e => by simp at e, fun _ => ⟨LH.out, KOK.out⟩, Q0.out.drewN _⟩
                  · obtain ⟨i2, rfl⟩ := Int.eq_ofNat_of_zero_le (by omega : 0 ≤ h)
                    have hid2 : i2 < ds.length := by rw [HN.out]; omega
                    obtain ⟨e2, _, _⟩ := kid_cells BW2.out (D1.out i2 hid2)
                    have iv2 : (i2 : Int) < (n : Int) := by omega
                    have gd2 : decide ((0 : Int) ≤ (i2 : Int)) = true := by simp
                    obtain ⟨vj, hvj⟩ : ∃ vj, (nd ds i2).1 = vj := ⟨_, rfl⟩
                    rw [hvj] at e2
                    have HVJ := Lib.hid hvj; clear hvj
                    by_cases hle2 : vj ≤ v
                    · have EE := Lib.hid (KB.out (Or.inr ⟨by omega, by rw [HVJ.out]; exact hle2⟩))
                      go_quiet (fail)
                      go_wp2_with fail
                      go_meet
                      exact ⟨true, rfl, fun _ => Or.inr EE.out, fun e => by simp at e, Q0.out.drewN _⟩
                    · have KOK : Hid (¬ kBad ds k) := KC.out LOK.out (fun e => absurd e.2 (by rw [HVJ.out]; exact hle2))
                      go_quiet (fail)
                      go_wp2_with fail
                      go_meet
                      exact ⟨false, rfl, fun e => by simp at e, fun _ => ⟨LH.out, KOK.out⟩, Q0.out.drewN _⟩
                · obtain ⟨i, rfl⟩ := Int.eq_ofNat_of_zero_le (by omega : 0 ≤ l)
                  have hid : i < ds.length := by rw [HN.out]; omega
                  obtain ⟨e1, _, _⟩ := kid_cells BW2.out (D1.out i hid)
                  have iv : (i : Int) < (n : Int) := by omega
                  have gd : decide ((0 : Int) ≤ (i : Int)) = true := by simp
                  obtain ⟨vi, hvi⟩ : ∃ vi, (nd ds i).1 = vi := ⟨_, rfl⟩
                  rw [hvi] at e1
                  have HVI := Lib.hid hvi; clear hvi
                  by_cases hle : vi ≤ v
                  · have EE := Lib.hid (KB.out (Or.inl ⟨by omega, by rw [HVI.out]; exact hle⟩))
                    go_quiet (fail)
                    go_wp2_with fail
                    go_meet
                    exact ⟨true, rfl, fun _ => Or.inr EE.out, fun e => by simp at e, Q0.out.drewN _⟩
                  · have LOK : Hid (¬ cBad ds v i) := fun e => absurd e.2 (by rw [HVI.out]; exact hle)
                    by_cases x1 : h < 0
                    · have gd2 : decide ((0 : Int) ≤ h) = false := by simp; omega
                      have KOK : Hid (¬ kBad ds k) := KC.out LOK.out (fun e => absurd e.1 (by omega))
                      go_quiet (fail)
                      go_wp2_with fail
                      go_meet
                      exact ⟨false, rfl, fun e => by simp at e, fun _ => ⟨LH.out, KOK.out⟩, Q0.out.drewN _⟩
                    · obtain ⟨i2, rfl⟩ := Int.eq_ofNat_of_zero_le (by omega : 0 ≤ h)
                      have hid2 : i2 < ds.length := by rw [HN.out]; omega
                      obtain ⟨e2, _, _⟩ := kid_cells BW2.out (D1.out i2 hid2)
                      have iv2 : (i2 : Int) < (n : Int) := by omega
                      have gd2 : decide ((0 : Int) ≤ (i2 : Int)) = true := by simp
                      obtain ⟨vj, hvj⟩ : ∃ vj, (nd ds i2).1 = vj := ⟨_, rfl⟩
                      rw [hvj] at e2
                      have HVJ := Lib.hid hvj; clear hvj
                      by_cases hle2 : vj ≤ v
                      · have EE := Lib.hid (KB.out (Or.inr ⟨by omega, by rw [HVJ.out]; exact hle2⟩))
                        go_quiet (fail)
                        go_wp2_with fail
                        go_meet
                        exact ⟨true, rfl, fun _ => Or.inr EE.out, fun e => by simp at e, Q0.out.drewN _⟩
                      · have KOK : Hid (¬ kBad ds k) := KC.out LOK.out (fun e => absurd e.2 (by rw [HVJ.out]; exact hle2))
                        go_quiet (fail)
                        go_wp2_with fail
                        go_meet
                        exact ⟨false, rfl, fun e => by simp at e, fun _ => ⟨LH.out, KOK.out⟩, Q0.out.drewN _⟩
            case rest =>
              obtain ⟨b, rfl, hb1, hb2, hq⟩ := hcut
              have QC := Lib.hid hq; clear hq
              cases b
              · have LH := Lib.hid (hb2 rfl).1
                have KOK := Lib.hid (hb2 rfl).2
                clear hb1 hb2 y0 c0 c1 c2
                go_wp2_with fail
                obtain ⟨wo, rfl⟩ : ∃ wo : World, wo = wr := ⟨_, rfl⟩
                go_loopw [7] (fun kv wr => Df3 ds k W2 kv wr) (fun kv _ => k - (intOf kv).toNat)
                case atStart => exact ⟨0, by omega, rfl, fun j hj => absurd hj (by omega), QC.out⟩
                case round =>
                  obtain ⟨j, hj, rfl, m1, m2⟩ := hrel
                  have M1 := Lib.hid m1; clear m1
                  have M2 := Lib.hid m2; clear m2
                  have y0 := M2.out.cell Y0.out
                  have c0 := M2.out.cell C0.out
                  have c1 := M2.out.cell C1.out
                  have c2 := M2.out.cell C2.out
                  by_cases hjk : j < k
                  · have hjd : j < ds.length := by rw [HN.out]; omega
                    have j2 : (j : Int) < (k : Int) := by omega
                    have j3 : (j : Int) < (n : Int) := by omega
                    have j4 : (0 : Int) ≤ (j : Int) := by omega
                    obtain ⟨s1, s2, s3⟩ := kid_cells (Below.over BW2.out BW2.out.size M2.out.below) (D1.out j hjd)
                    obtain ⟨⟨v1, l1, t1⟩, hnj⟩ : ∃ x, nd ds j = x := ⟨_, rfl⟩
                    rw [hnj] at s1 s2 s3
                    simp only at s1 s2 s3
                    have HNJ := Lib.hid hnj; clear hnj
                    by_cases hn : (v1, l1, t1) = (v, l, h)
                    · have EE := Lib.hid (chk_bad (r := root) SZ.out FE.out hkd (Or.inr (Or.inr ⟨j, hjk, by rw [HNJ.out, HX.out]; exact hn⟩)))
                      injection hn with g1 g2
                      injection g2 with g2 g3
                      subst g1
                      subst g2
                      subst g3
                      go_wp2_with fail
                      go_quiet (fail)
                      go_wp2_with fail
                      go_ret
                      exact ⟨by rw [EE.out]; rfl, Below.over BW2.out BW2.out.size (M2.out.drewN _).below⟩
                    · have NX : Hid (∀ i : Nat, i < j + 1 → nd ds i ≠ nd ds k) := fun i hi => by
                        rcases lt_succ hi with e | e
                        · exact M1.out i e
                        · rw [e, HNJ.out, HX.out]; exact hn
                      by_cases g1 : v1 = v
                      · subst g1
                        by_cases g2 : l1 = l
                        · subst g2
                          have g3 : ¬ t1 = h := fun e => hn (by rw [e])
                          clear hn
                          go_wp2_with fail
                          go_quiet (fail)
                          go_wp2_with fail
                          go_roundw
                          case rel => exact ⟨j + 1, by omega, by go_num, NX.out, M2.out.drewN _⟩
                          case measure => simp [intOf]; omega
                        · clear hn
                          go_wp2_with fail
                          go_quiet (fail)
                          go_wp2_with fail
                          go_roundw
                          case rel => exact ⟨j + 1, by omega, by go_num, NX.out, M2.out.drewN _⟩
                          case measure => simp [intOf]; omega
                      · clear hn
                        go_wp2_with fail
                        go_quiet (fail)
                        go_wp2_with fail
                        go_roundw
                        case rel => exact ⟨j + 1, by omega, by go_num, NX.out, M2.out.drewN _⟩
                        case measure => simp [intOf]; omega
                  · have j2 : ¬ ((j : Int) < (k : Int)) := by omega
                    have NB : Hid (∀ i : Nat, i < k + 1 → ¬ rBad ds i) := fun i hi => by
                      rcases lt_succ hi with e | e
                      · exact G1.out i e
                      · rw [e]
                        rintro (b | b | ⟨q, hq, b⟩)
                        · exact LH.out b
                        · exact KOK.out b
                        · exact M1.out q (by omega) b
                    go_wp2_with fail
                    go_roundw
                    case rel => exact ⟨k + 1, by omega, by go_num, NB.out, Below.over F22.out F22.out.size M2.out.below⟩
                    case measure => simp [intOf]; omega
              · have EE : Hid (chk ds root = 2) := by
                  rcases hb1 rfl with e | e
                  · exact chk_bad SZ.out FE.out hkd (Or.inl e)
                  · exact chk_bad SZ.out FE.out hkd (Or.inr (Or.inl e))
                clear hb1 hb2 y0 c0 c1 c2
                go_wp2_with fail
                go_ret
                exact ⟨by rw [EE.out]; rfl, Below.over BW2.out BW2.out.size QC.out.below⟩
          · have ekn : n = k := by omega
            subst ekn
            clear hk hkn
            have G2 : Hid (∀ i : Nat, i < ds.length → ¬ rBad ds i) := by rw [HN.out]; exact G1.out
            have GD := Lib.hid (good_of FE.out G2.out)
            by_cases n0 : n = 0
            · subst n0
              obtain rfl : ds = [] := List.length_eq_zero_iff.1 HN.out
              by_cases r1 : root = -1
              · have EE := Lib.hid (chk_empty_ok (Or.inl r1))
                subst r1
                go_wp2_with fail
                go_ret
                exact ⟨by rw [EE.out]; rfl, BW.out⟩
              · by_cases r2 : root = -2
                · have EE := Lib.hid (chk_empty_ok (Or.inr r2))
                  subst r2
                  go_wp2_with fail
                  go_ret
                  exact ⟨by rw [EE.out]; rfl, BW.out⟩
                · have EE := Lib.hid (chk_empty_bad (r := root) (by omega))
                  have b1 : (root != -1) = true := by simpa using r1
                  have b2 : (root != -2) = true := by simpa using r2
                  clear r1 r2
                  go_wp2_with fail
                  go_ret
                  exact ⟨by rw [EE.out]; rfl, BW.out⟩
            · have NE : Hid (ds ≠ []) := by intro e; rw [e] at HN; exact n0 HN.out.symm
              have nz : ((n : Int) == 0) = false := by simpa using n0
              have npos : 0 < n := by omega
              have HN0 := Lib.hid n0; clear n0
              by_cases hr : root = (n : Int) - 1
              · have HR : Hid (root = (ds.length : Int) - 1) := by rw [HN.out]; exact hr
                have rb : (root != (n : Int) - 1) = false := by simpa using hr
                have hrl : root < (n : Int) := by omega
                have hr0 : -2 ≤ root := by omega
                clear hr
                have NB := Lib.hid (numb_any (ca := cap) (root := root) HD.out GD.out.ord HN.out (by omega) n root [] none 0 wr hrl ⟨hr0, by rw [HN.out]; exact hrl⟩ BW.out List.nodup_nil (fun s hs => by simp at hs) ⟨by simp, Or.inl ⟨rfl, rfl⟩⟩)
                have EL : Hid (numb ds ds.length root [] = numb ds n root []) := by show _ = _; rw [HN.out]
                obtain ⟨L, hL⟩ : ∃ L, numb ds n root [] = L := ⟨_, rfl⟩
                have LB : L.length ≤ 2000 := by
                  rw [← hL]
                  have := numb_len GD.out.ord (f := n) (r := root) ⟨hr0, by rw [HN.out]; exact hrl⟩ List.nodup_nil (L := []) (fun s hs => by simp at hs)
                  rw [HN.out] at this
                  omega
                rw [hL] at NB EL
                clear hL
                go_wp2_with fail
                refine NB.out.mono ?_
                clear NB
                rintro e w2 ⟨a2, cap2, rfl, row2, gw2⟩
                have RW2 := Lib.hid row2; clear row2
                have B2 := Lib.hid (gw2.below BW.out (fun g hg => by simp [Value.ownBlock] at hg))
                obtain ⟨u0, u1, _⟩ := cells2 ((gw2.keep w.heap.size hsz (by simp [Value.ownBlock])).trans XB.out)
                clear gw2 y0 y1
                by_cases hLn : L.length = n
                · have bl : ((L.length : Int) != (n : Int)) = false := by rw [bne_eq_false_iff_eq]; omega
                  have HLN := Lib.hid hLn
                  go_wp2_with fail
                  go_loop [9] (fun iv => Df4 L n iv) (fun iv => n - (intOf iv).toNat)
                  case atStart => exact ⟨0, by omega, rfl, fun j hj => absurd hj (by omega)⟩
                  case round =>
                    obtain ⟨i, hi, rfl, hj⟩ := hrel
                    have HJ := Lib.hid hj; clear hj
                    by_cases hin : i < n
                    · have hil : i < L.length := by omega
                      have q1 : (i : Int) < (L.length : Int) := by omega
                      have q2 : (0 : Int) ≤ (i : Int) := by omega
                      obtain ⟨g, rfl, hc⟩ : ∃ g, a2 = some ⟨g, 0, none⟩ ∧ w2.cell? ⟨g, i, none⟩ = some (.int .i64 (L.getD i 0)) := by
                        have hr2 := RW2.out
                        rcases RW2.out.2 with ⟨h1, h2⟩ | ⟨g, cap', cur, hv, _⟩
                        · omega
                        · injection hv with e1 e2 e3
                          subst e1
                          refine ⟨g, rfl, ?_⟩
                          rw [hr2.cellAt i (by omega)]
                          rw [List.getD_eq_getElem?_getD, List.getElem?_map, List.getElem?_eq_getElem hil]; rfl
                      obtain ⟨x, hx⟩ : ∃ x, L.getD i 0 = x := ⟨_, rfl⟩
                      rw [hx] at hc
                      have HX := Lib.hid hx; clear hx
                      by_cases he : x = (i : Int)
                      · subst he
                        go_wp2_with fail
                        go_round
                        case rel => exact ⟨i + 1, by omega, by go_num, fun j hj => by
                          rcases lt_succ hj with e | e
                          · exact HJ.out j e
                          · rw [e]; exact HX.out⟩
                        case measure => simp [intOf]; omega
                      · have EE := Lib.hid (chk_numb_bad (r := root) SZ.out FE.out GD.out NE.out HR.out (by
                          rw [EL.out]
                          intro e
                          apply he
                          rw [← HX.out, e, HN.out, upto_get' hin]))
                        have heb : (x != (i : Int)) = true := by simpa using he
                        clear he
                        go_wp2_with fail
                        go_ret
                        exact ⟨by rw [EE.out]; rfl, B2.out⟩
                    · have EE := Lib.hid (chk_numb_ok (r := root) SZ.out FE.out GD.out NE.out HR.out (by
                        rw [EL.out, HN.out]
                        exact upto_of HLN.out fun j hj => HJ.out j (by omega)))
                      have q1 : ¬ ((i : Int) < (L.length : Int)) := by omega
                      go_wp2_with fail
                      go_ret
                      exact ⟨by rw [EE.out]; rfl, B2.out⟩
                · have EE := Lib.hid (chk_numb_bad (r := root) SZ.out FE.out GD.out NE.out HR.out (by
                    rw [EL.out]
                    intro e
                    apply hLn
                    rw [e, upto_len, HN.out]))
                  have bl : ((L.length : Int) != (n : Int)) = true := by rw [bne_iff_ne]; omega
                  clear hLn
                  go_wp2_with fail
                  go_ret
                  exact ⟨by rw [EE.out]; rfl, B2.out⟩
              · have EE := Lib.hid (chk_root_bad (r := root) SZ.out FE.out GD.out NE.out (by rw [HN.out]; exact hr))
                have rb : (root != (n : Int) - 1) = true := by simpa using hr
                clear hr
                go_wp2_with fail
                go_ret
                exact ⟨by rw [EE.out]; rfl, BW.out⟩

end Go.Proofs.Ythhogbligfmpdaa
