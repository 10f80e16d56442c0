/- CheckDiagram. -/
import Derived.Test.YthhogbligfmpdaaWv
import Derived.Test.YthhogbligfmpdaaPf
set_option linter.unusedVariables false
set_option linter.unusedSimpArgs false
namespace Go.Proofs.Ythhogbligfmpdaa
open Go.RowKit Bd

theorem cn_len (T : List Bool) : (cnNodes T).length ≤ 1000000 := by
  have := dfs_len 16 T []
  rw [two16] at this
  simp only [cnNodes, cnAcc, List.length_map, List.length_nil] at this ⊢
  omega

def CdPost (w : World) (r : Int) (e : Ending) (w' : World) : Prop := e = .returned (.int .i64 r) ∧ Below w.heap.size w w'

/-- The first loop. -/
def Cd1 (ds : List Nd) (n : Nat) (W : World) (iv : Value) (wr : World) : Prop :=
  ∃ k : Nat, k ≤ n ∧ iv = .int .i64 k ∧ firstErr ds k = 0 ∧ Below W.heap.size W wr

/-- The second loop. -/
def Cd2 (ds : List Nd) (n : Nat) (W : World) (iv : Value) (wr : World) : Prop :=
  ∃ k : Nat, k ≤ n ∧ iv = .int .i64 k ∧ (∀ i : Nat, i < k → ¬ kBad ds i) ∧ Below W.heap.size W wr

/-- The loop over a node's two children. -/
def Cd3 (ds : List Nd) (v l h : Int) (W : World) (cv : Value) (wr : World) : Prop :=
  ∃ c : Nat, c ≤ 2 ∧ cv = .int .i64 c ∧ (0 < c → ¬ cBad ds v l) ∧ (1 < c → ¬ cBad ds v h) ∧ Qt W wr

theorem cd3_child {ds : List Nd} {v l h : Int} {c : Nat} (hc : c < 2) (h1 : 0 < c → ¬ cBad ds v l) (h2 : 1 < c → ¬ cBad ds v h) : ∃ x, (x = l ∨ x = h) ∧ [Value.int .i64 l, Value.int .i64 h][c]? = some (.int .i64 x) ∧ (cBad ds v x → cBad ds v l ∨ cBad ds v h) ∧ (¬ cBad ds v x → (0 < c + 1 → ¬ cBad ds v l) ∧ (1 < c + 1 → ¬ cBad ds v h)) := by
  match c, hc with
  | 0, _ => exact ⟨l, Or.inl rfl, rfl, Or.inl, fun hh => ⟨fun _ => hh, fun e => by omega⟩⟩
  | 1, _ => exact ⟨h, Or.inr rfl, rfl, Or.inr, fun hh => ⟨fun _ => h1 (by omega), fun _ => hh⟩⟩

set_option maxRecDepth 100000 in
set_option maxHeartbeats 1000000 in
theorem check_any {w : World} {ds : List Nd} {a : Option Addr} {n cap : Nat} {root : Int} (hd : DAt w ds a) (hn : ds.length = n) (hl : n ≤ 9223372036854775807) :
    Calls Try.prog 31 #[.agg #[.slice a n cap, .int .i64 root]] w (CdPost w (chk ds root)) := by
  have HD := Lib.hid hd; clear hd
  have HN := Lib.hid hn; clear hn
  have X0 : Hid ((w.alloc (.cells #[.slice a n cap, .int .i64 root] 27)).heap[w.heap.size]? = some (.cells #[.slice a n cap, .int .i64 root] 27 (0, 0))) := heap_alloc_new w _
  have B0 : Hid (Below w.heap.size w (w.alloc (.cells #[.slice a n cap, .int .i64 root] 27))) := (Below.refl _ _).alloc (Nat.le_refl _) _
  have S0 : Hid ((w.alloc (.cells #[.slice a n cap, .int .i64 root] 27)).heap.size = w.heap.size + 1) := by show _ = _; simp
  by_cases h2k : 2000 < n
  · have e := chk_size (ns := ds) (r := root) (by rw [HN.out]; exact h2k)
    rw [e]
    have i1 : (2000 : Int) < (n : Int) := by omega
    go_enter Try.func31, Try.ntmps31
    go_wp2_with fail
    go_ret
    exact ⟨rfl, B0.out⟩
  · have i1 : ¬ ((2000 : Int) < (n : Int)) := by omega
    have SZ : Hid (¬ 2000 < ds.length) := by rw [HN.out]; exact h2k
    go_enter Try.func31, Try.ntmps31
    go_wp2_with fail
    generalize w.alloc (.cells #[.slice a n cap, .int .i64 root] 27) = W at *
    go_loopw [18] (fun iv wr => Cd1 ds n W iv wr) (fun iv _ => n - (intOf iv).toNat)
    case atStart => exact ⟨0, by omega, rfl, rfl, Below.refl _ _⟩
    case round =>
      obtain ⟨k, hk, rfl, f1, f2⟩ := hrel
      have F1 := Lib.hid f1; clear f1
      have F2 := Lib.hid f2; clear f2
      have BW := Lib.hid (Below.over B0.out B0.out.size F2.out)
      have hsz : w.heap.size < wr.heap.size := by have := F2.out.size; rw [S0.out] at this; omega
      obtain ⟨y0, y1, _⟩ := cells2 ((F2.out.block _ (by rw [S0.out]; omega)).trans X0.out)
      by_cases hkn : k < n
      · have j1 : (k : Int) < (n : Int) := by omega
        have hkd : k < ds.length := by rw [HN.out]; exact hkn
        obtain ⟨bd, od, rfl, d1⟩ := HD.out (by intro e; rw [e] at hkd; simp at hkd)
        obtain ⟨p1, p2, p3⟩ := kid_cells BW.out (d1 k hkd)
        clear d1
        obtain ⟨⟨v, l, h⟩, hx⟩ : ∃ x, nd ds k = x := ⟨_, rfl⟩
        rw [hx] at p1 p2 p3
        simp only at p1 p2 p3
        have HX := Lib.hid hx; clear hx
        have RT := Lib.hid (fun (e : Int) (he : ndErr k (v, l, h) = e) (hne : e ≠ 0) => (chk_first (r := root) SZ.out F1.out hkd (by rw [HX.out]; exact he) hne : chk ds root = e))
        have BN : Hid (Below w.heap.size w (wr.alloc (.cells #[.int .i64 v, .int .i64 l, .int .i64 h] 77))) := BW.out.alloc (by omega) _
        by_cases q1 : v < 0
        · have ee := RT.out 1 (ndErr_one (Or.inl q1)) (by omega)
          rw [ee]
          clear ee
          go_wp2_with fail
          go_ret
          exact ⟨rfl, BN.out⟩
        · by_cases q2 : 16 ≤ v
          · have ee := RT.out 1 (ndErr_one (Or.inr q2)) (by omega)
            rw [ee]
            clear ee
            go_wp2_with fail
            go_ret
            exact ⟨rfl, BN.out⟩
          · by_cases q3 : l < -2
            · have ee := RT.out 2 (ndErr_two (by omega) (Or.inl q3)) (by omega)
              rw [ee]
              clear ee
              go_wp2_with fail
              go_ret
              exact ⟨rfl, BN.out⟩
            · by_cases q4 : (k : Int) ≤ l
              · have ee := RT.out 2 (ndErr_two (by omega) (Or.inr (Or.inl q4))) (by omega)
                rw [ee]
                clear ee
                go_wp2_with fail
                go_ret
                exact ⟨rfl, BN.out⟩
              · by_cases q5 : h < -2
                · have ee := RT.out 2 (ndErr_two (by omega) (Or.inr (Or.inr (Or.inl q5)))) (by omega)
                  rw [ee]
                  clear ee
                  go_wp2_with fail
                  go_ret
                  exact ⟨rfl, BN.out⟩
                · by_cases q6 : (k : Int) ≤ h
                  · have ee := RT.out 2 (ndErr_two (by omega) (Or.inr (Or.inr (Or.inr q6)))) (by omega)
                    rw [ee]
                    clear ee
                    go_wp2_with fail
                    go_ret
                    exact ⟨rfl, BN.out⟩
                  · have NE := Lib.hid (ndErr_ok (i := k) (v := v) (l := l) (h := h) (by omega) (by omega))
                    go_wp2_with fail
                    go_roundw
                    case rel => exact ⟨k + 1, by omega, by go_num, by rw [firstErr_next F1.out, HX.out]; exact NE.out, F2.out.alloc (by have := S0.out; omega) _⟩
                    case measure => simp [intOf]; omega
      · have ekn : n = k := by omega
        subst ekn
        have FE : Hid (firstErr ds ds.length = 0) := by rw [HN.out]; exact F1.out
        clear F1
        go_wp2_with fail
        go_loopw [57] (fun iv wr => Cd2 ds n W iv wr) (fun iv _ => n - (intOf iv).toNat)
        case atStart => exact ⟨0, by omega, rfl, fun i hi => absurd hi (by omega), F2.out⟩
        case round =>
          clear y0 y1 hk hkn hsz
          obtain ⟨k, hk, rfl, g1, g2⟩ := hrel
          have G1 := Lib.hid g1; clear g1
          clear BW F2
          have F2 := Lib.hid g2; clear g2
          have BW := Lib.hid (Below.over B0.out B0.out.size F2.out)
          have hsz : w.heap.size < wr.heap.size := by have := F2.out.size; rw [S0.out] at this; omega
          have XB := Lib.hid ((F2.out.block _ (by rw [S0.out]; omega)).trans X0.out)
          obtain ⟨y0, y1, _⟩ := cells2 XB.out
          by_cases hkn : k < n
          · have j1 : (k : Int) < (n : Int) := by omega
            have hkd : k < ds.length := by rw [HN.out]; exact hkn
            obtain ⟨bd, od, rfl, d1⟩ := HD.out (by intro e; rw [e] at hkd; simp at hkd)
            obtain ⟨p1, p2, p3⟩ := kid_cells BW.out (d1 k hkd)
            have D1 := Lib.hid d1; clear d1
            have ec := firstErr_zero FE.out k hkd
            obtain ⟨⟨v, l, h⟩, hx⟩ : ∃ x, nd ds k = x := ⟨_, rfl⟩
            rw [hx] at p1 p2 p3 ec
            simp only at p1 p2 p3
            obtain ⟨z1, z2, z3, z4, z5, z6⟩ := ndErr_cases ec
            clear ec
            have KB : Hid (cBad ds v l ∨ cBad ds v h → kBad ds k) := by unfold kBad lo Bd.hi; rw [hx]; exact id
            have KC : Hid (¬ cBad ds v l → ¬ cBad ds v h → ¬ kBad ds k) := by unfold kBad lo Bd.hi; rw [hx]; intro a b c; exact c.elim a b
            have HX := Lib.hid hx; clear hx
            obtain ⟨x1, x2, x3, x4⟩ := two_new wr (.cells #[.int .i64 v, .int .i64 l, .int .i64 h] 77) (.cells #[.int .i64 l, .int .i64 h] 3) _ rfl
            have X1 := Lib.hid x1; clear x1
            have X2 := Lib.hid x2; clear x2
            have X3 := Lib.hid x3; clear x3
            have X4' := Lib.hid x4; clear x4
            go_upto_region 15 with fail
            generalize (wr.alloc (.cells #[.int .i64 v, .int .i64 l, .int .i64 h] 77)).alloc (.cells #[.int .i64 l, .int .i64 h] 3) = W2 at *
            have S3 : W2.heap.size = wr.heap.size + 2 := X3.out
            have BW2 := Lib.hid (Below.over BW.out BW.out.size X4'.out)
            have F22 := Lib.hid (Below.over F2.out F2.out.size X4'.out)
            have XB2 := Lib.hid ((X4'.out.block _ hsz).trans XB.out)
            clear p1 p2 p3 y0 y1 XB X4' BW F2 X3
            generalize wr.heap.size = B at *
            go_loopw [67] (fun cv wr => Cd3 ds v l h W2 cv wr) (fun cv _ => 2 - (intOf cv).toNat)
            case atStart => exact ⟨0, by omega, rfl, fun e => absurd e (by omega), fun e => absurd e (by omega), ⟨0, rfl⟩⟩
            case round =>
              obtain ⟨c, hc, rfl, m1, m2, m3⟩ := hrel
              have M3 := Lib.hid m3; clear m3
              by_cases hc2 : c < 2
              · obtain ⟨x, hx, cx, t1, t2⟩ := cd3_child hc2 m1 m2
                clear m1 m2
                have T1 := Lib.hid t1; clear t1
                have T2 := Lib.hid t2; clear t2
                have xk : x < (k : Int) := by rcases hx with rfl | rfl <;> assumption
                clear hx
                have cc : wr.cell? ⟨B + 1, c, none⟩ = some (.int .i64 x) := by
                  rw [World.cell?_of_block (a := ⟨B + 1, c, none⟩) M3.out.block, cell_of_row W2 _ c _ _ _ X2.out]
                  simpa using cx
                clear cx
                obtain ⟨c0, c1, c2⟩ := cells3 (M3.out.block.trans X1.out)
                obtain ⟨y0, y1, _⟩ := cells2 (M3.out.block.trans XB2.out)
                have cc1 : (c : Int) < 2 := by omega
                by_cases x0 : x < 0
                · have gd : decide ((0 : Int) ≤ x) = false := by simp; omega
                  have NB := Lib.hid (T2.out (fun e => absurd e.1 (by omega)))
                  go_wp2_with fail
                  go_quiet (fail)
                  go_wp2_with fail
                  go_roundw
                  case rel => exact ⟨c + 1, by omega, by go_num, NB.out.1, NB.out.2, M3.out.drewN _⟩
                  case measure => simp [intOf]; omega
                · obtain ⟨i, rfl⟩ := Int.eq_ofNat_of_zero_le (by omega : 0 ≤ x)
                  have hid : i < ds.length := by rw [HN.out]; omega
                  obtain ⟨e1, _, _⟩ := kid_cells (Below.over BW2.out BW2.out.size M3.out.below) (D1.out i hid)
                  have iv : (i : Int) < (n : Int) := by omega
                  have gd : decide ((0 : Int) ≤ (i : Int)) = true := by simp
                  obtain ⟨vi, hvi⟩ : ∃ vi, (nd ds i).1 = vi := ⟨_, rfl⟩
                  rw [hvi] at e1
                  have HVI := Lib.hid hvi; clear hvi
                  by_cases hle : vi ≤ v
                  · have EE := Lib.hid (chk_ord (r := root) SZ.out FE.out hkd (KB.out (T1.out ⟨by omega, by rw [HVI.out]; exact hle⟩)))
                    go_wp2_with fail
                    go_quiet (fail)
                    go_wp2_with fail
                    go_ret
                    exact ⟨by rw [EE.out]; rfl, Below.over BW2.out BW2.out.size (M3.out.drewN _).below⟩
                  · have NB := Lib.hid (T2.out (fun e => absurd e.2 (by rw [HVI.out]; exact hle)))
                    go_wp2_with fail
                    go_quiet (fail)
                    go_wp2_with fail
                    go_roundw
                    case rel => exact ⟨c + 1, by omega, by go_num, NB.out.1, NB.out.2, M3.out.drewN _⟩
                    case measure => simp [intOf]; omega
              · have hc3 : ¬ ((c : Int) < 2) := by omega
                have NB := Lib.hid (KC.out (m1 (by omega)) (m2 (by omega)))
                clear m1 m2
                go_wp2_with fail
                go_roundw
                case rel => exact ⟨k + 1, by omega, by go_num, fun i hi => by
                  rcases lt_succ hi with e | e
                  · exact G1.out i e
                  · rw [e]; exact NB.out, Below.over F22.out F22.out.size M3.out.below⟩
                case measure => simp [intOf]; omega
          · have ekn : n = k := by omega
            subst ekn
            clear hk hkn
            have G2 : Hid (∀ i : Nat, i < ds.length → ¬ kBad ds i) := by rw [HN.out]; exact G1.out
            by_cases rr1 : root < -2
            · have EE := Lib.hid (chk_ref (r := root) SZ.out FE.out G2.out (fun e => absurd e.1 (by omega)))
              go_wp2_with fail
              go_ret
              exact ⟨by rw [EE.out]; rfl, BW.out⟩
            · by_cases rr2 : (n : Int) ≤ root
              · have EE := Lib.hid (chk_ref (r := root) SZ.out FE.out G2.out (fun e => absurd e.2 (by rw [HN.out]; omega)))
                go_wp2_with fail
                go_ret
                exact ⟨by rw [EE.out]; rfl, BW.out⟩
              · have OD := Lib.hid (ord_of FE.out G2.out)
                have RF : Hid (Ref ds root) := ⟨by omega, by rw [HN.out]; omega⟩
                have EE := Lib.hid (chk_last SZ.out FE.out G2.out RF.out)
                go_wp2_with fail
                refine (new_any wr).mono ?_
                rintro e w3 ⟨M, rfl, st3, bl3, ft3⟩
                have ST3 := Lib.hid st3; clear st3
                have BL3 := Lib.hid bl3; clear bl3
                have FT3 := Lib.hid ft3; clear ft3
                have B3 := Lib.hid (Below.over BW.out BW.out.size BL3.out)
                have XB3 := Lib.hid ((BL3.out.block _ hsz).trans XB.out)
                clear y0 y1
                obtain ⟨y0, y1, _⟩ := cells2 XB3.out
                go_wp2_with fail
                refine (add_any (cap := cap) ST3.out (HD.out.below B3.out) (fun hne b o e f => ?_) OD.out RF.out HN.out (by omega) (by simp)).mono ?_
                · obtain ⟨b', o', e', d'⟩ := HD.out hne
                  have hz : b' < w.heap.size := lt_of_cell (d' 0 (by cases ds with | nil => exact absurd rfl hne | cons _ _ => simp)).1
                  have e2 := e.symm.trans e'
                  injection e2 with e2
                  injection e2 with e2
                  have := FT3.out b f
                  subst e2
                  omega
                · rintro e w4 ⟨ns4, r4, dn4, v4, rfl, ext4, rf4, tb4, st4, sp4⟩
                  have L4 : Hid (ns4.length ≤ 1000000000000) := by
                    obtain ⟨ms, e1, e2⟩ := ext4
                    show _ ≤ _
                    rw [e1]; simp; omega
                  have TT : Hid (tb ns4 16 r4 = tb ds 16 root) := (show tb ns4 16 r4 = tl _ from tb4).trans (tl_fnT (by rw [tb_length, two16]))
                  have C4 := diagram_any st4.mgr st4.good L4.out rf4
                  rw [TT.out] at C4
                  have C4H := Lib.hid C4; clear C4
                  have B4 : Hid (Below wr.heap.size wr w4) := BL3.out.trans ⟨sp4.os, sp4.tape, sp4.output, sp4.size, fun k hk => sp4.keep k (by have := BL3.out.size; omega) (fun f => absurd (FT3.out k f) (by omega))⟩
                  have XB4 := Lib.hid ((B4.out.block _ hsz).trans XB.out)
                  clear ext4 rf4 tb4 st4 sp4 TT L4 y0 y1
                  obtain ⟨y0, y1, _⟩ := cells2 XB4.out
                  go_wp2_with fail
                  refine C4H.out.mono ?_
                  rintro e w5 ⟨a5, c5, rfl, dn5, bl5⟩
                  have B5 := Lib.hid (Below.over B4.out B4.out.size bl5)
                  have BW5 := Lib.hid (Below.over BW.out BW.out.size B5.out)
                  have DN5 := Lib.hid dn5.dAt; clear dn5
                  have XB5 := Lib.hid ((B5.out.block _ hsz).trans XB.out)
                  have hsz5 : w.heap.size < w5.heap.size := by have := B5.out.size; omega
                  clear bl5 y0 y1
                  have hcl := Lib.hid (cn_len (tb ds 16 root))
                  generalize cnNodes (tb ds 16 root) = O5 at *
                  generalize cnRoot (tb ds 16 root) = r5 at *
                  obtain ⟨y0, y1, _⟩ := cells2 XB5.out
                  have B6 : Hid (Below w.heap.size w (w5.alloc (.cells #[.slice a5 O5.length c5, .int .i64 r5] 27))) := BW5.out.alloc (by omega) _
                  by_cases hrr : r5 = root
                  · subst hrr
                    have C6 := equal_any (c1 := c5) (c2 := cap) (DN5.out.below ((Below.refl _ _).alloc (Nat.le_refl _) (.cells #[.slice a5 O5.length c5, .int .i64 r5] 27))) (HD.out.below B6.out) hcl.out (by rw [HN.out]; omega)
                    rw [HN.out] at C6
                    have C6H := Lib.hid C6; clear C6
                    by_cases hoo : O5 = ds
                    · have e0 : Hid (chk ds r5 = 0) := by rw [EE.out, if_pos ⟨rfl, hoo⟩]; exact rfl
                      have ed : Hid (decide (O5 = ds) = true) := by show _ = _; simp [hoo]
                      clear hoo
                      go_wp2_with fail
                      refine C6H.out.mono ?_
                      rw [ed.out]
                      rintro e w7 ⟨rfl, q7, rfl⟩
                      go_wp2_with fail
                      go_ret
                      exact ⟨by rw [e0.out]; rfl, B6.out.trans ⟨rfl, rfl, rfl, Nat.le_refl _, fun _ _ => rfl⟩⟩
                    · have e0 : Hid (chk ds r5 = 2) := by rw [EE.out, if_neg (fun e => hoo e.2)]; exact rfl
                      have ed : Hid (decide (O5 = ds) = false) := by show _ = _; simp [hoo]
                      clear hoo
                      go_wp2_with fail
                      refine C6H.out.mono ?_
                      rw [ed.out]
                      rintro e w7 ⟨rfl, q7, rfl⟩
                      go_wp2_with fail
                      go_ret
                      exact ⟨by rw [e0.out]; rfl, B6.out.trans ⟨rfl, rfl, rfl, Nat.le_refl _, fun _ _ => rfl⟩⟩
                  · have e0 : Hid (chk ds root = 2) := by rw [EE.out, if_neg (fun e => hrr e.1)]; exact rfl
                    have hrb : (r5 != root) = true := by simpa using hrr
                    clear hrr
                    go_wp2_with fail
                    go_ret
                    exact ⟨by rw [e0.out]; rfl, B6.out⟩

end Go.Proofs.Ythhogbligfmpdaa

/- varsFault. -/
namespace Go.Proofs.Ythhogbligfmpdaa
open Go.RowKit Bd

set_option maxRecDepth 100000 in
set_option maxHeartbeats 400000 in
theorem vf1_any {w : World} {b : Nat} {v l h vars : Int} (hb : w.cell? ⟨b, 0, none⟩ = some (.int .i64 vars)) :
    Calls Try.prog 86 #[.agg #[.int .i64 v, .int .i64 l, .int .i64 h], .pointer (some ⟨b, 0, none⟩)] w fun e w' => e = .returned (.bool (decide (vars ≤ v))) ∧ Below w.heap.size w w' := by
  have B : Hid (Below w.heap.size w (w.alloc (.cells #[.int .i64 v, .int .i64 l, .int .i64 h] 77))) := (Below.refl _ _).alloc (Nat.le_refl _) _
  have lt := lt_of_cell hb
  simp only at lt
  go_enter Try.func86, Try.ntmps86
  go_wp2_with fail
  go_ret
  exact ⟨rfl, B.out⟩

def IxR (ds : List Nd) (vars : Int) (n : Nat) (w : World) (iv : Value) (wr : World) : Prop :=
  ∃ k : Nat, k ≤ n ∧ iv = .int .i64 k ∧ (∀ i : Nat, i < k → ¬ vars ≤ (nd ds i).1) ∧ Below w.heap.size w wr

def IxPost (ds : List Nd) (vars : Int) (w : World) (e : Ending) (w' : World) : Prop :=
  ∃ x : Int, e = .returned (.int .i64 x) ∧ (0 ≤ x ↔ ∃ i : Nat, i < ds.length ∧ vars ≤ (nd ds i).1) ∧ Below w.heap.size w w'

set_option maxRecDepth 100000 in
set_option maxHeartbeats 1000000 in
theorem ix_any {w : World} {ds : List Nd} {a : Option Addr} {n cap b : Nat} {vars : Int} (hd : DAt w ds a) (hn : ds.length = n) (hl : n ≤ 9223372036854775807) (hb : w.cell? ⟨b, 0, none⟩ = some (.int .i64 vars)) :
    Calls Try.prog 99 #[.slice a n cap, .func (.func 86) #[] #[.pointer (some ⟨b, 0, none⟩)]] w (IxPost ds vars w) := by
  have HD := Lib.hid hd; clear hd
  have HN := Lib.hid hn; clear hn
  have lt := lt_of_cell hb
  simp only at lt
  go_enter Try.func99, Try.ntmps99
  go_wp2_with fail
  go_loopw [8] (fun iv wr => IxR ds vars n w iv wr) (fun iv _ => n - (intOf iv).toNat)
  case atStart => exact ⟨0, by omega, rfl, fun i hi => absurd hi (by omega), Below.refl _ _⟩
  case round =>
    obtain ⟨k, hk, rfl, f1, f2⟩ := hrel
    have F1 := Lib.hid f1; clear f1
    have F2 := Lib.hid f2; clear f2
    by_cases hkn : k < n
    · have j1 : (k : Int) < (n : Int) := by omega
      have hkd : k < ds.length := by rw [HN.out]; exact hkn
      obtain ⟨bd, od, rfl, d1⟩ := HD.out (by intro e; rw [e] at hkd; simp at hkd)
      obtain ⟨p1, p2, p3⟩ := kid_cells F2.out (d1 k hkd)
      clear d1
      obtain ⟨⟨v, l, h⟩, hx⟩ : ∃ x, nd ds k = x := ⟨_, rfl⟩
      rw [hx] at p1 p2 p3
      simp only at p1 p2 p3
      have HX := Lib.hid hx; clear hx
      have hbw := (F2.out.cell (p := ⟨b, 0, none⟩) lt).trans hb
      have C := vf1_any (v := v) (l := l) (h := h) hbw
      by_cases hv : vars ≤ v
      · rw [decide_eq_true hv] at C
        have CH := Lib.hid C; clear C
        go_wp2_with fail
        refine CH.out.mono ?_
        rintro e w2 ⟨rfl, hb2⟩
        go_wp2_with fail
        go_ret
        exact ⟨k, rfl, ⟨fun _ => ⟨k, hkd, by rw [HX.out]; exact hv⟩, fun _ => by omega⟩, Below.over F2.out F2.out.size hb2⟩
      · rw [decide_eq_false hv] at C
        have CH := Lib.hid C; clear C
        go_wp2_with fail
        refine CH.out.mono ?_
        rintro e w2 ⟨rfl, hb2⟩
        have HB2 := Lib.hid hb2; clear hb2
        go_wp2_with fail
        go_roundw
        case rel => exact ⟨k + 1, by omega, by go_num, fun i hi => by
          rcases lt_succ hi with e | e
          · have := F1.out i e; omega
          · rw [e, HX.out]; show ¬ vars ≤ v; omega, Below.over F2.out F2.out.size HB2.out⟩
        case measure => simp [intOf]; omega
    · go_wp2_with fail
      go_ret
      exact ⟨-1, rfl, ⟨fun h => absurd h (by omega), fun ⟨i, hi, hv⟩ => by have := F1.out i (by rw [HN.out] at hi; omega); omega⟩, F2.out⟩

open Classical in
set_option maxRecDepth 100000 in
set_option maxHeartbeats 400000 in
theorem cf_any {w : World} {ds : List Nd} {a : Option Addr} {n cap b : Nat} {vars : Int} (hd : DAt w ds a) (hn : ds.length = n) (hl : n ≤ 9223372036854775807) (hb : w.cell? ⟨b, 0, none⟩ = some (.int .i64 vars)) :
    Calls Try.prog 85 #[.slice a n cap, .func (.func 86) #[] #[.pointer (some ⟨b, 0, none⟩)]] w fun e w' => e = .returned (.bool (decide (∃ i : Nat, i < ds.length ∧ vars ≤ (nd ds i).1))) ∧ Below w.heap.size w w' := by
  have C := Lib.hid (ix_any (cap := cap) hd hn hl hb)
  clear hd hn
  go_enter Try.func85, Try.ntmps85
  go_wp2_with fail
  refine C.out.mono ?_
  rintro e w2 ⟨x, rfl, hx, hb2⟩
  have HX := Lib.hid hx; clear hx
  have HB := Lib.hid hb2; clear hb2
  go_wp2_with fail
  go_ret
  refine ⟨?_, HB.out⟩
  by_cases h : ∃ i : Nat, i < ds.length ∧ vars ≤ (nd ds i).1
  · have := HX.out.2 h
    rw [decide_eq_true h]
    simp [this]
  · have : ¬ 0 ≤ x := fun e => h (HX.out.1 e)
    rw [decide_eq_false h]
    simp [this]

end Go.Proofs.Ythhogbligfmpdaa

/- varsFault and Count. -/
namespace Go.Proofs.Ythhogbligfmpdaa
open Go.RowKit Bd

open Classical in
noncomputable def vErr (ds : List Nd) (r vars : Int) : Int := if chk ds r ≠ 0 then chk ds r else if vars < 0 ∨ 16 < vars ∨ ∃ i : Nat, i < ds.length ∧ vars ≤ (nd ds i).1 then 1 else 0

theorem vErr_chk {ds : List Nd} {r vars : Int} (h : chk ds r ≠ 0) : vErr ds r vars = chk ds r := by unfold vErr; rw [if_pos h]
theorem vErr_one {ds : List Nd} {r vars : Int} (h : chk ds r = 0) (h1 : vars < 0 ∨ 16 < vars ∨ ∃ i : Nat, i < ds.length ∧ vars ≤ (nd ds i).1) : vErr ds r vars = 1 := by unfold vErr; rw [if_neg (by simpa using h), if_pos h1]
theorem vErr_zero {ds : List Nd} {r vars : Int} (h : chk ds r = 0) (h1 : ¬ (vars < 0 ∨ 16 < vars ∨ ∃ i : Nat, i < ds.length ∧ vars ≤ (nd ds i).1)) : vErr ds r vars = 0 := by unfold vErr; rw [if_neg (by simpa using h), if_neg h1]

set_option maxRecDepth 100000 in
set_option maxHeartbeats 400000 in
theorem vf_any {w : World} {ds : List Nd} {a : Option Addr} {n cap : Nat} {root vars : Int} (hd : DAt w ds a) (hn : ds.length = n) (hl : n ≤ 9223372036854775807) :
    Calls Try.prog 57 #[.agg #[.slice a n cap, .int .i64 root], .int .i64 vars] w (CdPost w (vErr ds root vars)) := by
  obtain ⟨x1, x2, x3, x4⟩ := two_new w (.cells #[.slice a n cap, .int .i64 root] 27) (.cells #[.int .i64 vars] 3) _ rfl
  have X1 := Lib.hid x1; clear x1
  have X2 := Lib.hid x2; clear x2
  have X3 := Lib.hid x3; clear x3
  have X4 := Lib.hid x4; clear x4
  have HD := Lib.hid hd; clear hd
  have C := Lib.hid (check_any (cap := cap) (root := root) (HD.out.below X4.out) hn hl)
  have HN := Lib.hid hn; clear hn
  go_enter Try.func57, Try.ntmps57
  go_wp2_with fail
  generalize (w.alloc (.cells #[.slice a n cap, .int .i64 root] 27)).alloc (.cells #[.int .i64 vars] 3) = w1 at *
  refine C.out.mono ?_
  clear C
  rintro e w2 ⟨rfl, hb⟩
  have B2 := Lib.hid (Below.over X4.out X4.out.size hb)
  have b1 := Lib.hid ((hb.block _ (by rw [X3.out]; omega)).trans X1.out)
  have b2 := Lib.hid ((hb.block _ (by rw [X3.out]; omega)).trans X2.out)
  clear hb
  obtain ⟨y0, y1, _⟩ := cells2 b1.out
  have z0 : w2.cell? ⟨w.heap.size + 1, 0, none⟩ = some (.int .i64 vars) := by simp [World.cell?, b2.out]
  obtain ⟨ck, hck⟩ : ∃ ck, chk ds root = ck := ⟨_, rfl⟩
  by_cases hc : ck = 0
  · have HC : Hid (chk ds root = 0) := by rw [hck]; exact hc
    rw [hck, hc]
    clear hck hc
    by_cases q1 : vars < 0
    · have E := Lib.hid (vErr_one (ds := ds) (r := root) (vars := vars) HC.out (Or.inl q1))
      go_wp2_with fail
      go_ret
      exact ⟨by rw [E.out]; rfl, B2.out⟩
    · by_cases q2 : 16 < vars
      · have E := Lib.hid (vErr_one (ds := ds) (r := root) (vars := vars) HC.out (Or.inr (Or.inl q2)))
        go_wp2_with fail
        go_ret
        exact ⟨by rw [E.out]; rfl, B2.out⟩
      · have CF := cf_any (cap := cap) (HD.out.below B2.out) HN.out hl z0
        by_cases q3 : ∃ i : Nat, i < ds.length ∧ vars ≤ (nd ds i).1
        · have E := Lib.hid (vErr_one (ds := ds) (r := root) (vars := vars) HC.out (Or.inr (Or.inr q3)))
          rw [decide_eq_true q3] at CF
          have CFH := Lib.hid CF; clear CF q3
          go_wp2_with fail
          refine CFH.out.mono ?_
          rintro e w3 ⟨rfl, hb3⟩
          go_wp2_with fail
          go_ret
          exact ⟨by rw [E.out]; rfl, Below.over B2.out B2.out.size hb3⟩
        · have E := Lib.hid (vErr_zero (ds := ds) (r := root) (vars := vars) HC.out (fun e => e.elim q1 (fun e => e.elim q2 q3)))
          rw [decide_eq_false q3] at CF
          have CFH := Lib.hid CF; clear CF q3
          go_wp2_with fail
          refine CFH.out.mono ?_
          rintro e w3 ⟨rfl, hb3⟩
          go_wp2_with fail
          go_ret
          exact ⟨by rw [E.out]; rfl, Below.over B2.out B2.out.size hb3⟩
  · have E := Lib.hid ((vErr_chk (ds := ds) (r := root) (vars := vars) (by rw [hck]; exact hc)).trans hck)
    rw [hck]
    clear hck
    have hcb : (ck != 0) = true := by simpa using hc
    go_wp2_with fail
    go_ret
    exact ⟨by rw [E.out]; rfl, B2.out⟩

end Go.Proofs.Ythhogbligfmpdaa

/- Count: its closure. -/
namespace Go.Proofs.Ythhogbligfmpdaa
open Go.RowKit Bd

theorem wr_mul {c d : Nat} (h : c * 2 ^ d ≤ 65536) : wrap64 ((c : Int) * 2 ^ d) = ((c * 2 ^ d : Nat) : Int) := by
  have e : (c : Int) * 2 ^ d = ((c * 2 ^ d : Nat) : Int) := by simp
  rw [e, IntWalk.wrap64_in _ (by omega)]
theorem wr_pow {d : Nat} (h : 2 ^ d ≤ 65536) : wrap64 (2 ^ d) = ((2 ^ d : Nat) : Int) := by
  have e : (2 : Int) ^ d = ((2 ^ d : Nat) : Int) := by simp
  rw [e]
  generalize 2 ^ d = p at *
  exact IntWalk.wrap64_in _ (by omega)
theorem ret_i64 {a b : Int} (h : a = b) : Ending.returned (.int .i64 a) = .returned (.int .i64 b) := by rw [h]

/-- So many assignments of the variables from u on make a reference true, by the counts of nodes. -/
def mny (ds : List Nd) (ct : Nat → Nat) (vars u : Nat) (r : Int) : Nat := if r = -1 then 0 else if r = -2 then 2 ^ (vars - u) else ct r.toNat * 2 ^ ((nd ds r).1.toNat - u)

set_option maxRecDepth 100000 in
set_option maxHeartbeats 400000 in
theorem many_one {w : World} {bv bc ba u : Nat} :
    Calls Try.prog 58 #[.int .i64 (-1), .int .i64 u, .pointer (some ⟨bv, 0, none⟩), .pointer (some ⟨bc, 0, none⟩), .pointer (some ⟨ba, 0, none⟩)] w fun e w' => e = .returned (.int .i64 0) ∧ w = w' := by
  go_enter Try.func58, Try.ntmps58
  go_wp2_with fail
  go_ret
  exact ⟨rfl, rfl⟩

set_option maxRecDepth 100000 in
set_option maxHeartbeats 400000 in
theorem many_two {w : World} {bv bc ba V u : Nat} (hv : w.cell? ⟨bv, 0, none⟩ = some (.int .i64 V)) (hu : u ≤ V) (h16 : V ≤ 16) (hb : 2 ^ (V - u) ≤ 65536) :
    Calls Try.prog 58 #[.int .i64 (-2), .int .i64 u, .pointer (some ⟨bv, 0, none⟩), .pointer (some ⟨bc, 0, none⟩), .pointer (some ⟨ba, 0, none⟩)] w fun e w' => e = .returned (.int .i64 (2 ^ (V - u) : Nat)) ∧ w = w' := by
  have h1 : (u : Int) ≤ (V : Int) := by omega
  have h2 : (V : Int) ≤ 16 := by omega
  have h3 : (0 : Int) ≤ (u : Int) := by omega
  have E := Lib.hid (wr_pow hb); clear hb
  go_enter Try.func58, Try.ntmps58
  go_wp2_with fail
  go_ret
  exact ⟨ret_i64 E.out, rfl⟩

set_option maxRecDepth 100000 in
set_option maxHeartbeats 400000 in
theorem many_pos {w : World} {bv bc ba u k n cap g bd od c v : Nat} (hc : w.cell? ⟨bc, 0, none⟩ = some (.slice (some ⟨g, 0, none⟩) n n)) (ha : w.cell? ⟨ba, 0, none⟩ = some (.slice (some ⟨bd, od, none⟩) n cap))
    (hk : k < n) (hn : n ≤ 2000) (hck : w.cell? ⟨g, k, none⟩ = some (.int .i64 c)) (hdk : w.cell? ⟨bd, od + k * 3, none⟩ = some (.int .i64 v)) (hu : u ≤ v) (h16 : v ≤ 16) (hb : c * 2 ^ (v - u) ≤ 65536) :
    Calls Try.prog 58 #[.int .i64 k, .int .i64 u, .pointer (some ⟨bv, 0, none⟩), .pointer (some ⟨bc, 0, none⟩), .pointer (some ⟨ba, 0, none⟩)] w fun e w' => e = .returned (.int .i64 (c * 2 ^ (v - u) : Nat)) ∧ Qt w w' := by
  have h1 : (u : Int) ≤ (v : Int) := by omega
  have h2 : (v : Int) ≤ 16 := by omega
  have h3 : (0 : Int) ≤ (u : Int) := by omega
  have h4 : (k : Int) < (n : Int) := by omega
  have h5 : (0 : Int) ≤ (k : Int) := by omega
  have h6 : (0 : Int) ≤ (v : Int) - (u : Int) := by omega
  have E := Lib.hid (wr_mul hb); clear hb
  go_enter Try.func58, Try.ntmps58
  go_wp2_with fail
  go_quiet (fail)
  go_wp2_with fail
  go_ret
  exact ⟨ret_i64 E.out, _, rfl⟩

theorem many_any {w : World} {bv bc ba V u n cap g : Nat} {ds : List Nd} {a : Option Addr} {ct : Nat → Nat} {r : Int} (hv : w.cell? ⟨bv, 0, none⟩ = some (.int .i64 V)) (hc : w.cell? ⟨bc, 0, none⟩ = some (.slice (some ⟨g, 0, none⟩) n n))
    (ha : w.cell? ⟨ba, 0, none⟩ = some (.slice a n cap)) (hd : DAt w ds a) (hn : ds.length = n) (hl : n ≤ 2000) (h16 : V ≤ 16) (arr : 0 ≤ r → w.cell? ⟨g, r.toNat, none⟩ = some (.int .i64 (ct r.toNat : Nat))) (h1 : -2 ≤ r) (h2 : r < (n : Int))
    (hu : u ≤ V) (hut : (u : Int) ≤ top ds r) (ht : top ds r ≤ 16) (hb : mny ds ct V u r ≤ 65536) :
    Calls Try.prog 58 #[.int .i64 r, .int .i64 u, .pointer (some ⟨bv, 0, none⟩), .pointer (some ⟨bc, 0, none⟩), .pointer (some ⟨ba, 0, none⟩)] w fun e w' => e = .returned (.int .i64 (mny ds ct V u r : Nat)) ∧ Qt w w' := by
  by_cases e1 : r = -1
  · subst e1
    have : mny ds ct V u (-1) = 0 := by simp [mny]
    rw [this]
    exact many_one.mono fun e w' ⟨x, y⟩ => ⟨x, 0, y.symm⟩
  · by_cases e2 : r = -2
    · subst e2
      have : mny ds ct V u (-2) = 2 ^ (V - u) := by simp [mny]
      rw [this] at hb ⊢
      exact (many_two hv hu h16 hb).mono fun e w' ⟨x, y⟩ => ⟨x, 0, y.symm⟩
    · obtain ⟨k, rfl⟩ := Int.eq_ofNat_of_zero_le (by omega : 0 ≤ r)
      have : mny ds ct V u k = ct k * 2 ^ ((nd ds k).1.toNat - u) := by unfold mny; rw [if_neg e1, if_neg e2]; simp
      rw [this] at hb ⊢
      rw [top_nat] at hut ht
      have hk : k < ds.length := by omega
      obtain ⟨bd, od, rfl, d1⟩ := hd (by intro e; rw [e] at hk; simp at hk)
      have p1 := (d1 k hk).1
      have ck := arr (by omega)
      simp only [Int.toNat_natCast] at ck
      have hvv : (nd ds k).1 = ((nd ds k).1.toNat : Int) := by omega
      rw [hvv] at p1
      exact many_pos hc ha (by omega) hl ck p1 (by omega) (by omega) hb

theorem mny_cr {ds : List Nd} {vars : Nat} {ct : Nat → Nat} {k : Nat} (cr : ∀ i : Nat, i < k → CR ds vars i (nd ds i).1.toNat (ct i)) (o : Ord ds) {r : Int} {u : Nat} (h1 : -2 ≤ r) (h2 : r < (k : Int)) (hk : k ≤ ds.length) (hu : (u : Int) ≤ top ds r) (huv : u ≤ vars) (hv : vars ≤ 16) :
    CR ds vars r u (mny ds ct vars u r) := by
  by_cases e1 : r = -1
  · subst e1
    have : mny ds ct vars u (-1) = 0 := by simp [mny]
    rw [this]; exact CR.neg1 _ _ _
  · by_cases e2 : r = -2
    · subst e2
      have : mny ds ct vars u (-2) = 2 ^ (vars - u) := by simp [mny]
      rw [this]; exact CR.neg2 _ huv hv
    · obtain ⟨i, rfl⟩ := Int.eq_ofNat_of_zero_le (by omega : 0 ≤ r)
      have : mny ds ct vars u i = ct i * 2 ^ ((nd ds i).1.toNat - u) := by unfold mny; rw [if_neg e1, if_neg e2]; simp
      rw [this]
      obtain ⟨a1, a2, _⟩ := o i (by omega)
      rw [top_nat] at hu
      exact (cr i (by omega)).up (by rw [top_nat]; omega) (by omega) (by omega)

theorem CR.le16 {ds : List Nd} {vars : Nat} {r : Int} {u c : Nat} (h : CR ds vars r u c) (hu : u ≤ vars) (hv : vars ≤ 16) : c ≤ 65536 := by
  have a := Bd.CR.le h hu hv
  have b : 2 ^ (vars - u) ≤ 2 ^ 16 := pow_mono (by omega)
  rw [two16] at b
  omega

/-- The state of Count's loop. -/
structure CtR (W : World) (ds : List Nd) (vars g n k : Nat) (wr : World) (ct : Nat → Nat) : Prop where
  cr : ∀ i : Nat, i < k → CR ds vars i (nd ds i).1.toNat (ct i)
  os : wr.os = W.os
  tape : wr.tape = W.tape
  output : wr.output = W.output
  size : W.heap.size ≤ wr.heap.size
  keep : ∀ j, j < W.heap.size → j ≠ g → wr.heap[j]? = W.heap[j]?
  arr : ∀ j, j < k → wr.cell? ⟨g, j, none⟩ = some (.int .i64 (ct j : Nat))
  has : ∀ j, j < n → ∃ u, wr.cell? ⟨g, j, none⟩ = some u
  fz : ∀ j, wr.frozen? ⟨g, j, none⟩ = false

theorem CtR.push {W wr w2 : World} {ds : List Nd} {vars g n k c : Nat} {ct : Nat → Nat} {ob : Obj} (h : CtR W ds vars g n k wr ct) (hg : g < W.heap.size) (hk : k < n) (q : Qt (wr.alloc ob) w2) (hc : CR ds vars k (nd ds k).1.toNat c) :
    CtR W ds vars g n (k + 1) (w2.setCell ⟨g, k, none⟩ (.int .i64 (c : Nat))) (fun j => if j = k then c else ct j) := by
  have hsz := h.size
  have blk : w2.heap[g]? = wr.heap[g]? := q.block.trans (Below.heap_alloc wr ob g (by omega))
  have cel : ∀ j, w2.cell? ⟨g, j, none⟩ = wr.cell? ⟨g, j, none⟩ := fun j => World.cell?_of_block (a := ⟨g, j, none⟩) blk
  have hqz : w2.heap.size = wr.heap.size + 1 := by rw [q.heap]; simp
  obtain ⟨nq, hq⟩ := q
  refine ⟨?_, ?_, ?_, ?_, ?_, ?_, ?_, ?_, ?_⟩
  · intro i hi
    by_cases e : i = k
    · subst e; simp only [if_true]; exact hc
    · simp only [if_neg e]; exact h.cr i (by omega)
  · rw [hq]; exact h.os
  · rw [hq]; exact h.tape
  · rw [hq]; exact h.output
  · have : (w2.setCell ⟨g, k, none⟩ (.int .i64 (c : Nat))).heap.size = w2.heap.size := by simp [World.setCell]
    omega
  · intro j hj hne
    rw [Below.heap_setCell _ _ _ _ hne, ← h.keep j hj hne, hq]
    exact Below.heap_alloc wr ob j (by omega)
  · intro j hj
    by_cases e : j = k
    · subst e
      simp only [if_true]
      obtain ⟨u, hu⟩ := h.has j hk
      exact World.cell?_setCell_same _ _ _ ((cel j).trans hu)
    · simp only [if_neg e]
      rw [World.cell?_setCell_other _ _ _ _ (by intro e2; exact e (congrArg Addr.off e2).symm), cel j]
      exact h.arr j (by omega)
  · intro j hj
    by_cases e : j = k
    · subst e
      obtain ⟨u, hu⟩ := h.has j hk
      exact ⟨_, World.cell?_setCell_same _ _ _ ((cel j).trans hu)⟩
    · obtain ⟨u, hu⟩ := h.has j hj
      exact ⟨u, by rw [World.cell?_setCell_other _ _ _ _ (by intro e2; exact e (congrArg Addr.off e2).symm), cel j]; exact hu⟩
  · intro j
    rw [World.frozen?_setCell]
    have : w2.frozen? ⟨g, j, none⟩ = wr.frozen? ⟨g, j, none⟩ := by simp only [World.frozen?, blk]
    rw [this]; exact h.fz j

end Go.Proofs.Ythhogbligfmpdaa
