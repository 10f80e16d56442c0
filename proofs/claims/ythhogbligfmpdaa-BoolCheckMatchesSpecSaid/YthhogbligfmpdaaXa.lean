/- CheckDiagram. -/
import Derived.Test.YthhogbligfmpdaaWz
import Derived.Test.YthhogbligfmpdaaPf
set_option linter.unusedVariables false
set_option linter.unusedSimpArgs false
namespace Go.Proofs.Ythhogbligfmpdaa
open Go.RowKit Bd

theorem cn_len (T : List Bool) : (cnNodes T).length ≤ 1000000 := by
  have := dfs_len 16 T []
  rw [two16] at this
  simp only [cnNodes, cnAcc, List.length_map, List.length_nil] at this ⊢
  omega

def CdPost (w : World) (r : Int) (e : Ending) (w' : World) : Prop := e = .returned (.int .i64 r) ∧ Below w.heap.size w w'

/-- The first loop. -/
def Cd1 (ds : List Nd) (n : Nat) (W : World) (iv : Value) (wr : World) : Prop :=
  ∃ k : Nat, k ≤ n ∧ iv = .int .i64 k ∧ firstErr ds k = 0 ∧ Below W.heap.size W wr

/-- The second loop. -/
def Cd2 (ds : List Nd) (n : Nat) (W : World) (iv : Value) (wr : World) : Prop :=
  ∃ k : Nat, k ≤ n ∧ iv = .int .i64 k ∧ (∀ i : Nat, i < k → ¬ kBad ds i) ∧ Below W.heap.size W wr

/-- The loop over a node's two children. -/
def Cd3 (ds : List Nd) (v l h : Int) (W : World) (cv : Value) (wr : World) : Prop :=
  ∃ c : Nat, c ≤ 2 ∧ cv = .int .i64 c ∧ (0 < c → ¬ cBad ds v l) ∧ (1 < c → ¬ cBad ds v h) ∧ Qt W wr

theorem cd3_child {ds : List Nd} {v l h : Int} {c : Nat} (hc : c < 2) (h1 : 0 < c → ¬ cBad ds v l) (h2 : 1 < c → ¬ cBad ds v h) : ∃ x, (x = l ∨ x = h) ∧ [Value.int .i64 l, Value.int .i64 h][c]? = some (.int .i64 x) ∧ (cBad ds v x → cBad ds v l ∨ cBad ds v h) ∧ (¬ cBad ds v x → (0 < c + 1 → ¬ cBad ds v l) ∧ (1 < c + 1 → ¬ cBad ds v h)) := by
  match c, hc with
  | 0, _ => exact ⟨l, Or.inl rfl, rfl, Or.inl, fun hh => ⟨fun _ => hh, fun e => by omega⟩⟩
  | 1, _ => exact ⟨h, Or.inr rfl, rfl, Or.inr, fun hh => ⟨fun _ => h1 (by omega), fun _ => hh⟩⟩

set_option maxRecDepth 100000 in
set_option maxHeartbeats 1000000 in
theorem check_any {w : World} {ds : List Nd} {a : Option Addr} {n cap : Nat} {root : Int} (hd : DAt w ds a) (hn : ds.length = n) (hl : n ≤ 9223372036854775807) :
    Calls Try.prog 31 #[.agg #[.slice a n cap, .int .i64 root]] w (CdPost w (chk ds root)) := by
  have HD := Lib.hid hd; clear hd
  have HN := Lib.hid hn; clear hn
  have X0 : Hid ((w.alloc (.cells #[.slice a n cap, .int .i64 root] 27)).heap[w.heap.size]? = some (.cells #[.slice a n cap, .int .i64 root] 27 (0, 0))) := heap_alloc_new w _
  have B0 : Hid (Below w.heap.size w (w.alloc (.cells #[.slice a n cap, .int .i64 root] 27))) := (Below.refl _ _).alloc (Nat.le_refl _) _
  have S0 : Hid ((w.alloc (.cells #[.slice a n cap, .int .i64 root] 27)).heap.size = w.heap.size + 1) := by show _ = _; simp
  by_cases h2k : 2000 < n
  · have e := chk_size (ns := ds) (r := root) (by rw [HN.out]; exact h2k)
    rw [e]
    have i1 : (2000 : Int) < (n : Int) := by omega
    go_enter Try.func31, Try.ntmps31
    go_wp2_with fail
    go_ret
    exact ⟨rfl, B0.out⟩
  · have i1 : ¬ ((2000 : Int) < (n : Int)) := by omega
    have SZ : Hid (¬ 2000 < ds.length) := by rw [HN.out]; exact h2k
    go_enter Try.func31, Try.ntmps31
    go_wp2_with fail
    generalize w.alloc (.cells #[.slice a n cap, .int .i64 root] 27) = W at *
    go_loopw [18] (fun iv wr => Cd1 ds n W iv wr) (fun iv _ => n - (intOf iv).toNat)
    case atStart => exact ⟨0, by omega, rfl, rfl, Below.refl _ _⟩
    case round =>
      obtain ⟨k, hk, rfl, f1, f2⟩ := hrel
      have F1 := Lib.hid f1; clear f1
      have F2 := Lib.hid f2; clear f2
      have BW := Lib.hid (Below.over B0.out B0.out.size F2.out)
      have hsz : w.heap.size < wr.heap.size := by have := F2.out.size; rw [S0.out] at this; omega
      obtain ⟨y0, y1, _⟩ := cells2 ((F2.out.block _ (by rw [S0.out]; omega)).trans X0.out)
      by_cases hkn : k < n
      · have j1 : (k : Int) < (n : Int) := by omega
        have hkd : k < ds.length := by rw [HN.out]; exact hkn
        obtain ⟨bd, od, rfl, d1⟩ := HD.out (by intro e; rw [e] at hkd; simp at hkd)
        obtain ⟨p1, p2, p3⟩ := kid_cells BW.out (d1 k hkd)
        clear d1
        obtain ⟨⟨v, l, h⟩, hx⟩ : ∃ x, nd ds k = x := ⟨_, rfl⟩
        rw [hx] at p1 p2 p3
        simp only at p1 p2 p3
        have HX := Lib.hid hx; clear hx
        have RT := Lib.hid (fun (e : Int) (he : ndErr k (v, l, h) = e) (hne : e ≠ 0) => (chk_first (r := root) SZ.out F1.out hkd (by rw [HX.out]; exact he) hne : chk ds root = e))
        have BN : Hid (Below w.heap.size w (wr.alloc (.cells #[.int .i64 v, .int .i64 l, .int .i64 h] 77))) := BW.out.alloc (by omega) _
        by_cases q1 : v < 0
        · have ee := RT.out 1 (ndErr_one (Or.inl q1)) (by omega)
          rw [ee]
          clear ee
          go_wp2_with fail
          go_ret
          exact ⟨rfl, BN.out⟩
        · by_cases q2 : 16 ≤ v
          · have ee := RT.out 1 (ndErr_one (Or.inr q2)) (by omega)
            rw [ee]
            clear ee
            go_wp2_with fail
            go_ret
            exact ⟨rfl, BN.out⟩
          · by_cases q3 : l < -2
            · have ee := RT.out 2 (ndErr_two (by omega) (Or.inl q3)) (by omega)
              rw [ee]
              clear ee
              go_wp2_with fail
              go_ret
              exact ⟨rfl, BN.out⟩
            · by_cases q4 : (k : Int) ≤ l
              · have ee := RT.out 2 (ndErr_two (by omega) (Or.inr (Or.inl q4))) (by omega)
                rw [ee]
                clear ee
                go_wp2_with fail
                go_ret
                exact ⟨rfl, BN.out⟩
              · by_cases q5 : h < -2
                · have ee := RT.out 2 (ndErr_two (by omega) (Or.inr (Or.inr (Or.inl q5)))) (by omega)
                  rw [ee]
                  clear ee
                  go_wp2_with fail
                  go_ret
                  exact ⟨rfl, BN.out⟩
                · by_cases q6 : (k : Int) ≤ h
                  · have ee := RT.out 2 (ndErr_two (by omega) (Or.inr (Or.inr (Or.inr q6)))) (by omega)
                    rw [ee]
                    clear ee
                    go_wp2_with fail
                    go_ret
                    exact ⟨rfl, BN.out⟩
                  · have NE := Lib.hid (ndErr_ok (i := k) (v := v) (l := l) (h := h) (by omega) (by omega))
                    go_wp2_with fail
                    go_roundw
                    case rel => exact ⟨k + 1, by omega, by go_num, by rw [firstErr_next F1.out, HX.out]; exact NE.out, F2.out.alloc (by have := S0.out; omega) _⟩
                    case measure => simp [intOf]; omega
      · have ekn : n = k := by omega
        subst ekn
        have FE : Hid (firstErr ds ds.length = 0) := by rw [HN.out]; exact F1.out
        clear F1
        go_wp2_with fail
        go_loopw [57] (fun iv wr => Cd2 ds n W iv wr) (fun iv _ => n - (intOf iv).toNat)
        case atStart => exact ⟨0, by omega, rfl, fun i hi => absurd hi (by omega), F2.out⟩
        case round =>
          clear y0 y1 hk hkn hsz
          obtain ⟨k, hk, rfl, g1, g2⟩ := hrel
          have G1 := Lib.hid g1; clear g1
          clear BW F2
          have F2 := Lib.hid g2; clear g2
          have BW := Lib.hid (Below.over B0.out B0.out.size F2.out)
          have hsz : w.heap.size < wr.heap.size := by have := F2.out.size; rw [S0.out] at this; omega
          have XB := Lib.hid ((F2.out.block _ (by rw [S0.out]; omega)).trans X0.out)
          obtain ⟨y0, y1, _⟩ := cells2 XB.out
          by_cases hkn : k < n
          · have j1 : (k : Int) < (n : Int) := by omega
            have hkd : k < ds.length := by rw [HN.out]; exact hkn
            obtain ⟨bd, od, rfl, d1⟩ := HD.out (by intro e; rw [e] at hkd; simp at hkd)
            obtain ⟨p1, p2, p3⟩ := kid_cells BW.out (d1 k hkd)
            have D1 := Lib.hid d1; clear d1
            have ec := firstErr_zero FE.out k hkd
            obtain ⟨⟨v, l, h⟩, hx⟩ : ∃ x, nd ds k = x := ⟨_, rfl⟩
            rw [hx] at p1 p2 p3 ec
            simp only at p1 p2 p3
            obtain ⟨z1, z2, z3, z4, z5, z6⟩ := ndErr_cases ec
            clear ec
            have KB : Hid (cBad ds v l ∨ cBad ds v h → kBad ds k) := by unfold kBad lo Bd.hi; rw [hx]; exact id
            have KC : Hid (¬ cBad ds v l → ¬ cBad ds v h → ¬ kBad ds k) := by unfold kBad lo Bd.hi; rw [hx]; intro a b c; exact c.elim a b
            have HX := Lib.hid hx; clear hx
            obtain ⟨x1, x2, x3, x4⟩ := two_new wr (.cells #[.int .i64 v, .int .i64 l, .int .i64 h] 77) (.cells #[.int .i64 l, .int .i64 h] 3) _ rfl
            have X1 := Lib.hid x1; clear x1
            have X2 := Lib.hid x2; clear x2
            have X3 := Lib.hid x3; clear x3
            have X4' := Lib.hid x4; clear x4
            go_upto_region 15 with fail
            generalize (wr.alloc (.cells #[.int .i64 v, .int .i64 l, .int .i64 h] 77)).alloc (.cells #[.int .i64 l, .int .i64 h] 3) = W2 at *
            have S3 : W2.heap.size = wr.heap.size + 2 := X3.out
            have BW2 := Lib.hid (Below.over BW.out BW.out.size X4'.out)
            have F22 := Lib.hid (Below.over F2.out F2.out.size X4'.out)
            have XB2 := Lib.hid ((X4'.out.block _ hsz).trans XB.out)
            clear p1 p2 p3 y0 y1 XB X4' BW F2 X3
            generalize wr.heap.size = B at *
            go_loopw [67] (fun cv wr => Cd3 ds v l h W2 cv wr) (fun cv _ => 2 - (intOf cv).toNat)
            case atStart => exact ⟨0, by omega, rfl, fun e => absurd e (by omega), fun e => absurd e (by omega), ⟨0, rfl⟩⟩
            case round =>
              obtain ⟨c, hc, rfl, m1, m2, m3⟩ := hrel
              have M3 := Lib.hid m3; clear m3
              by_cases hc2 : c < 2
              · obtain ⟨x, hx, cx, t1, t2⟩ := cd3_child hc2 m1 m2
                clear m1 m2
                have T1 := Lib.hid t1; clear t1
                have T2 := Lib.hid t2; clear t2
                have xk : x < (k : Int) := by rcases hx with rfl | rfl <;> assumption
                clear hx
                have cc : wr.cell? ⟨B + 1, c, none⟩ = some (.int .i64 x) := by
                  rw [World.cell?_of_block (a := ⟨B + 1, c, none⟩) M3.out.block, cell_of_row W2 _ c _ _ _ X2.out]
                  simpa using cx
                clear cx
                obtain ⟨c0, c1, c2⟩ := cells3 (M3.out.block.trans X1.out)
                obtain ⟨y0, y1, _⟩ := cells2 (M3.out.block.trans XB2.out)
                have cc1 : (c : Int) < 2 := by omega
                by_cases x0 : x < 0
                · have gd : decide ((0 : Int) ≤ x) = false := by simp; omega
                  have NB := Lib.hid (T2.out (fun e => absurd e.1 (by omega)))
                  go_wp2_with fail
                  go_quiet (fail)
                  go_wp2_with fail
                  go_roundw
                  case rel => exact ⟨c + 1, by omega, by go_num, NB.out.1, NB.out.2, M3.out.drewN _⟩
                  case measure => simp [intOf]; omega
                · obtain ⟨i, rfl⟩ := Int.eq_ofNat_of_zero_le (by omega : 0 ≤ x)
                  have hid : i < ds.length := by rw [HN.out]; omega
                  obtain ⟨e1, _, _⟩ := kid_cells (Below.over BW2.out BW2.out.size M3.out.below) (D1.out i hid)
                  have iv : (i : Int) < (n : Int) := by omega
                  have gd : decide ((0 : Int) ≤ (i : Int)) = true := by simp
                  obtain ⟨vi, hvi⟩ : ∃ vi, (nd ds i).1 = vi := ⟨_, rfl⟩
                  rw [hvi] at e1
                  have HVI := Lib.hid hvi; clear hvi
                  by_cases hle : vi ≤ v
                  · have EE := Lib.hid (chk_ord (r := root) SZ.out FE.out hkd (KB.out (T1.out ⟨by omega, by rw [HVI.out]; exact hle⟩)))
                    go_wp2_with fail
                    go_quiet (fail)
                    go_wp2_with fail
                    go_ret
                    exact ⟨by rw [EE.out]; rfl, Below.over BW2.out BW2.out.size (M3.out.drewN _).below⟩
                  · have NB := Lib.hid (T2.out (fun e => absurd e.2 (by rw [HVI.out]; exact hle)))
                    go_wp2_with fail
                    go_quiet (fail)
                    go_wp2_with fail
                    go_roundw
                    case rel => exact ⟨c + 1, by omega, by go_num, NB.out.1, NB.out.2, M3.out.drewN _⟩
                    case measure => simp [intOf]; omega
              · have hc3 : ¬ ((c : Int) < 2) := by omega
                have NB := Lib.hid (KC.out (m1 (by omega)) (m2 (by omega)))
                clear m1 m2
                go_wp2_with fail
                go_roundw
                case rel => exact ⟨k + 1, by omega, by go_num, fun i hi => by
                  rcases lt_succ hi with e | e
                  · exact G1.out i e
                  · rw [e]; exact NB.out, Below.over F22.out F22.out.size M3.out.below⟩
                case measure => simp [intOf]; omega
          · have ekn : n = k := by omega
            subst ekn
            clear hk hkn
            have G2 : Hid (∀ i : Nat, i < ds.length → ¬ kBad ds i) := by rw [HN.out]; exact G1.out
            by_cases rr1 : root < -2
            · have EE := Lib.hid (chk_ref (r := root) SZ.out FE.out G2.out (fun e => absurd e.1 (by omega)))
              go_wp2_with fail
              go_ret
              exact ⟨by rw [EE.out]; rfl, BW.out⟩
            · by_cases rr2 : (n : Int) ≤ root
              · have EE := Lib.hid (chk_ref (r := root) SZ.out FE.out G2.out (fun e => absurd e.2 (by rw [HN.out]; omega)))
                go_wp2_with fail
                go_ret
                exact ⟨by rw [EE.out]; rfl, BW.out⟩
              · have OD := Lib.hid (ord_of FE.out G2.out)
                have RF : Hid (Ref ds root) := ⟨by omega, by rw [HN.out]; omega⟩
                have EE := Lib.hid (chk_last SZ.out FE.out G2.out RF.out)
                go_wp2_with fail
                refine (new_any wr).mono ?_
                rintro e w3 ⟨M, rfl, st3, bl3, ft3⟩
                have ST3 := Lib.hid st3; clear st3
                have BL3 := Lib.hid bl3; clear bl3
                have FT3 := Lib.hid ft3; clear ft3
                have B3 := Lib.hid (Below.over BW.out BW.out.size BL3.out)
                have XB3 := Lib.hid ((BL3.out.block _ hsz).trans XB.out)
                clear y0 y1
                obtain ⟨y0, y1, _⟩ := cells2 XB3.out
                go_wp2_with fail
                refine (add_any (cap := cap) ST3.out (HD.out.below B3.out) (fun hne b o e f => ?_) OD.out RF.out HN.out (by omega) (by simp)).mono ?_
                · obtain ⟨b', o', e', d'⟩ := HD.out hne
                  have hz : b' < w.heap.size := lt_of_cell (d' 0 (by cases ds with | nil => exact absurd rfl hne | cons _ _ => simp)).1
                  have e2 := e.symm.trans e'
                  injection e2 with e2
                  injection e2 with e2
                  have := FT3.out b f
                  subst e2
                  omega
                · rintro e w4 ⟨ns4, r4, dn4, v4, rfl, ext4, rf4, tb4, st4, sp4⟩
                  have L4 : Hid (ns4.length ≤ 1000000000000) := by
                    obtain ⟨ms, e1, e2⟩ := ext4
                    show _ ≤ _
                    rw [e1]; simp; omega
                  have TT : Hid (tb ns4 16 r4 = tb ds 16 root) := (show tb ns4 16 r4 = tl _ from tb4).trans (tl_fnT (by rw [tb_length, two16]))
                  have C4 := diagram_any st4.mgr st4.good L4.out rf4
                  rw [TT.out] at C4
                  have C4H := Lib.hid C4; clear C4
                  have B4 : Hid (Below wr.heap.size wr w4) := BL3.out.trans ⟨sp4.os, sp4.tape, sp4.output, sp4.size, fun k hk => sp4.keep k (by have := BL3.out.size; omega) (fun f => absurd (FT3.out k f) (by omega))⟩
                  have XB4 := Lib.hid ((B4.out.block _ hsz).trans XB.out)
                  clear ext4 rf4 tb4 st4 sp4 TT L4 y0 y1
                  obtain ⟨y0, y1, _⟩ := cells2 XB4.out
                  go_wp2_with fail
                  refine C4H.out.mono ?_
                  rintro e w5 ⟨a5, c5, rfl, dn5, bl5⟩
                  have B5 := Lib.hid (Below.over B4.out B4.out.size bl5)
                  have BW5 := Lib.hid (Below.over BW.out BW.out.size B5.out)
                  have DN5 := Lib.hid dn5.dAt; clear dn5
                  have XB5 := Lib.hid ((B5.out.block _ hsz).trans XB.out)
                  have hsz5 : w.heap.size < w5.heap.size := by have := B5.out.size; omega
                  clear bl5 y0 y1
                  have hcl := Lib.hid (cn_len (tb ds 16 root))
                  generalize cnNodes (tb ds 16 root) = O5 at *
                  generalize cnRoot (tb ds 16 root) = r5 at *
                  obtain ⟨y0, y1, _⟩ := cells2 XB5.out
                  have B6 : Hid (Below w.heap.size w (w5.alloc (.cells #[.slice a5 O5.length c5, .int .i64 r5] 27))) := BW5.out.alloc (by omega) _
                  by_cases hrr : r5 = root
                  · subst hrr
                    have C6 := equal_any (c1 := c5) (c2 := cap) (DN5.out.below ((Below.refl _ _).alloc (Nat.le_refl _) (.cells #[.slice a5 O5.length c5, .int .i64 r5] 27))) (HD.out.below B6.out) hcl.out (by rw [HN.out]; omega)
                    rw [HN.out] at C6
                    have C6H := Lib.hid C6; clear C6
                    by_cases hoo : O5 = ds
                    · have e0 : Hid (chk ds r5 = 0) := by rw [EE.out, if_pos ⟨rfl, hoo⟩]; exact rfl
                      have ed : Hid (decide (O5 = ds) = true) := by show _ = _; simp [hoo]
                      clear hoo
                      go_wp2_with fail
                      refine C6H.out.mono ?_
                      rw [ed.out]
                      rintro e w7 ⟨rfl, q7, rfl⟩
                      go_wp2_with fail
                      go_ret
                      exact ⟨by rw [e0.out]; rfl, B6.out.trans ⟨rfl, rfl, rfl, Nat.le_refl _, fun _ _ => rfl⟩⟩
                    · have e0 : Hid (chk ds r5 = 2) := by rw [EE.out, if_neg (fun e => hoo e.2)]; exact rfl
                      have ed : Hid (decide (O5 = ds) = false) := by show _ = _; simp [hoo]
                      clear hoo
                      go_wp2_with fail
                      refine C6H.out.mono ?_
                      rw [ed.out]
                      rintro e w7 ⟨rfl, q7, rfl⟩
                      go_wp2_with fail
                      go_ret
                      exact ⟨by rw [e0.out]; rfl, B6.out.trans ⟨rfl, rfl, rfl, Nat.le_refl _, fun _ _ => rfl⟩⟩
                  · have e0 : Hid (chk ds root = 2) := by rw [EE.out, if_neg (fun e => hrr e.1)]; exact rfl
                    have hrb : (r5 != root) = true := by simpa using hrr
                    clear hrr
                    go_wp2_with fail
                    go_ret
                    exact ⟨by rw [e0.out]; rfl, B6.out⟩

end Go.Proofs.Ythhogbligfmpdaa
