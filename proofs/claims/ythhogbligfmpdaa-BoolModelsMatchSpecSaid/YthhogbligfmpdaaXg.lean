/- The law BoolBuildMatchesSpec: its walk. -/
import Derived.Test.YthhogbligfmpdaaXf
set_option linter.unusedVariables false
set_option linter.unusedSimpArgs false
namespace Go.Proofs.Ythhogbligfmpdaa
open Go.RowKit Bd

theorem bld_len (F : Fm) : (bldNodes F).length ≤ 1000000 := by
  unfold bldNodes outNodes
  split
  · split
    · omega
    · simp
  · simp

theorem out_len (T : List Bool) : (outNodes T).length ≤ 1000000 := by
  unfold outNodes
  split
  · omega
  · simp

theorem same_true {w : World} {O : List Nd} {a1 a2 : Option Addr} {n c1 c2 : Nat} {r : Int} (h1 : DAt w O a1) (h2 : DAt w O a2) (hn : O.length = n) (l : n ≤ 1000000) :
    Calls Try.prog 18 #[.agg #[.slice a1 n c1, .int .i64 r], .agg #[.slice a2 n c2, .int .i64 r]] w fun e w' => e = .returned (.bool true) ∧ Below w.heap.size w w' := by
  subst hn
  have := same_any (c1 := c1) (c2 := c2) (r1 := r) (r2 := r) h1 h2 l l
  rw [decide_eq_true (by simp)] at this
  exact this

set_option maxRecDepth 100000 in
set_option maxHeartbeats 1000000 in
theorem law3_any {w : World} {F : Fm} {a : Option Addr} (h : FmAt w F a) (cap : Nat) (hcnt : cnt F ≤ 1000000000000) :
    Calls Try.prog 3 #[.agg #[.int .i64 F.op, .int .i64 F.var, .slice a F.kids.length cap]] w fun e w' => e = .returned (.bool true) ∧ Below w.heap.size w w' := by
  have CB := Lib.hid (Build_any h)
  have CF := Lib.hid (fun (cap : Nat) (W : World) (hB : Below w.heap.size w W) => boolFaultR_any h cap W hB hcnt)
  have CC := Lib.hid (checkBool_any h)
  have CT := Lib.hid (formulaTable_any h)
  clear h
  have N1 := Lib.hid (heap_alloc_new w (.cells #[.int .i64 F.op, .int .i64 F.var, .slice a F.kids.length cap] 24))
  have B1 : Hid (Below w.heap.size w (w.alloc (.cells #[.int .i64 F.op, .int .i64 F.var, .slice a F.kids.length cap] 24))) := (Below.refl _ _).alloc (Nat.le_refl _) _
  have S1 : Hid ((w.alloc (.cells #[.int .i64 F.op, .int .i64 F.var, .slice a F.kids.length cap] 24)).heap.size = w.heap.size + 1) := by show _ = _; simp
  have L1 := Lib.hid (bld_len F)
  have E0 : Hid (boolErr F = 0 → bldNodes F = outNodes (tl (evF F)) ∧ bldRoot F = outRoot (tl (evF F)) ∧ bldErr F = outErr (tl (evF F))) := fun hc => ⟨by simp [bldNodes, hc], by simp [bldRoot, hc], by simp [bldErr, hc]⟩
  have E1 : Hid (boolErr F ≠ 0 → bldNodes F = [] ∧ bldRoot F = 0 ∧ bldErr F = boolErr F) := fun hc => ⟨by simp [bldNodes, hc], by simp [bldRoot, hc], by simp [bldErr, hc]⟩
  generalize F.op = op at *
  generalize F.var = var at *
  generalize F.kids.length = kl at *
  go_enter Try.func3, Try.ntmps3
  go_wp2_with fail
  generalize w.alloc (.cells #[.int .i64 op, .int .i64 var, .slice a kl cap] 24) = w1 at *
  refine (CB.out cap w1 B1.out).mono ?_
  rintro e w2 ⟨a2, cap2, rfl, dn2, bl2⟩
  have DN2 := Lib.hid dn2.dAt; clear dn2
  have hz2 : w.heap.size < w2.heap.size := by have := bl2.size; rw [S1.out] at this; omega
  have BL2 := Lib.hid (Below.over B1.out B1.out.size bl2)
  have N2 := Lib.hid ((bl2.block w.heap.size (by rw [S1.out]; omega)).trans N1.out)
  clear bl2
  obtain ⟨bn, hbn⟩ : ∃ bn, bldNodes F = bn := ⟨_, rfl⟩
  obtain ⟨br, hbr⟩ : ∃ br, bldRoot F = br := ⟨_, rfl⟩
  obtain ⟨be, hbe⟩ : ∃ be, bldErr F = be := ⟨_, rfl⟩
  rw [hbn] at DN2 L1
  rw [hbn, hbr, hbe]
  have HBN := Lib.hid hbn; clear hbn
  have HBR := Lib.hid hbr; clear hbr
  have HBE := Lib.hid hbe; clear hbe
  have B3 : Hid (Below w2.heap.size w2 (w2.alloc (.cells #[.slice a2 bn.length cap2, .int .i64 br] 27))) := (Below.refl _ _).alloc (Nat.le_refl _) _
  have N3 := Lib.hid (heap_alloc_new w2 (.cells #[.slice a2 bn.length cap2, .int .i64 br] 27))
  have S3 : Hid ((w2.alloc (.cells #[.slice a2 bn.length cap2, .int .i64 br] 27)).heap.size = w2.heap.size + 1) := by show _ = _; simp
  obtain ⟨y0, y1, y2⟩ := cells3 N2.out
  go_wp2_with fail
  clear y0 y1 y2
  generalize w2.alloc (.cells #[.slice a2 bn.length cap2, .int .i64 br] 27) = w3 at *
  have BL3 := Lib.hid (Below.over BL2.out BL2.out.size B3.out)
  refine (CF.out cap w3 BL3.out).mono ?_
  rintro e w4 ⟨rfl, bl4⟩
  have B34 := Lib.hid bl4
  have BL4 := Lib.hid (Below.over BL3.out BL3.out.size bl4)
  clear bl4
  obtain ⟨y0, y1, y2⟩ := cells3 ((B34.out.block w.heap.size (by rw [S3.out]; omega)).trans ((B3.out.block w.heap.size hz2).trans N2.out))
  obtain ⟨bf, hbf⟩ : ∃ bf, boolErr F = bf := ⟨_, rfl⟩
  rw [hbf]
  have HBF := Lib.hid hbf; clear hbf
  go_wp2_with fail
  refine (CC.out cap w4 BL4.out).mono ?_
  rintro e w5 ⟨rfl, bl5⟩
  have BL5 := Lib.hid (Below.over BL4.out BL4.out.size bl5)
  have B35 := Lib.hid (Below.over B34.out B34.out.size bl5)
  clear bl5 y0 y1 y2
  rw [HBF.out]
  have N6 := Lib.hid (heap_alloc_new w5 (.cells #[.slice none 0 0, .int .i64 0] 27))
  have B6 : Hid (Below w5.heap.size w5 (w5.alloc (.cells #[.slice none 0 0, .int .i64 0] 27))) := (Below.refl _ _).alloc (Nat.le_refl _) _
  have S6 : Hid ((w5.alloc (.cells #[.slice none 0 0, .int .i64 0] 27)).heap.size = w5.heap.size + 1) := by show _ = _; simp
  have hz5 : w2.heap.size < w5.heap.size := by have := B35.out.size; rw [S3.out] at this; omega
  have D5 := Lib.hid (((DN2.out.below B3.out).below B35.out).below B6.out)
  have N56 := Lib.hid ((B6.out.block w2.heap.size hz5).trans ((B35.out.block w2.heap.size (by rw [S3.out]; omega)).trans N3.out))
  have N57 := Lib.hid ((B6.out.block w.heap.size (by omega)).trans ((B35.out.block w.heap.size (by rw [S3.out]; omega)).trans ((B3.out.block w.heap.size hz2).trans N2.out)))
  by_cases hz : bf = 0
  · subst hz
    have e0 := E0.out HBF.out
    have HFA := Lib.hid (boolErr_zero HBF.out).2
    obtain rfl : bn = outNodes (tl (evF F)) := HBN.out.symm.trans e0.1
    obtain rfl : br = outRoot (tl (evF F)) := HBR.out.symm.trans e0.2.1
    obtain rfl : be = outErr (tl (evF F)) := HBE.out.symm.trans e0.2.2
    clear e0 HBN HBR HBE E0 E1
    have BL6 := Lib.hid (Below.over BL5.out BL5.out.size B6.out)
    have CO := Lib.hid (fun (W : World) (g : Nat) (hlt : g < W.heap.size) (ht : TAt W (tl (evF F)) g 0) => ofTable_any (t := tl (evF F)) (n := 65536) (cap := 65536) (tl_length _) two16.symm (Nat.le_refl _) hlt ht)
    have C6 := Lib.hid (CT.out cap _ BL6.out HFA.out)
    clear CT CB CF CC
    generalize outNodes (tl (evF F)) = O at *
    generalize outRoot (tl (evF F)) = rt at *
    generalize outErr (tl (evF F)) = er at *
    obtain ⟨u0, u1, u2⟩ := cells3 N57.out
    go_wp2_with fail
    clear u0 u1 u2
    generalize w5.alloc (.cells #[.slice none 0 0, .int .i64 0] 27) = w6 at *
    refine C6.out.mono ?_
    rintro e w7 ⟨g, hg, rfl, ht, bl7⟩
    have TT := Lib.hid ht
    have hgl : g < w7.heap.size := lt_of_cell (ht 0 (by rw [tl_length]; decide))
    clear ht
    have B67 := Lib.hid bl7; clear bl7
    go_wp2_with fail
    refine (CO.out w7 g hgl TT.out).mono ?_
    rintro e w8 ⟨a8, cap8, rfl, dn8, bl8⟩
    have B68 := Lib.hid (Below.over B67.out B67.out.size bl8); clear bl8
    have D8 := Lib.hid (D5.out.below B68.out)
    obtain ⟨z0, z1, z2, z3⟩ := cells2 ((B68.out.block w5.heap.size (by rw [S6.out]; omega)).trans N6.out)
    obtain ⟨y0, y1, y2, y3⟩ := cells2 ((B68.out.block w2.heap.size (by rw [S6.out]; omega)).trans N56.out)
    have hz8 : w5.heap.size < w8.heap.size := by have := B68.out.size; rw [S6.out] at this; omega
    have FA : Hid (∀ (W : World), W = (w8.setCell ⟨w5.heap.size, 0, none⟩ (.slice a8 O.length cap8)).setCell ⟨w5.heap.size, 1, none⟩ (.int .i64 rt) → DAt W O a2 ∧ DAt W O a8 ∧ Below w.heap.size w W) := by
      rintro W rfl
      have kp : ∀ b, b ≠ w5.heap.size → ((w8.setCell ⟨w5.heap.size, 0, none⟩ (.slice a8 O.length cap8)).setCell ⟨w5.heap.size, 1, none⟩ (.int .i64 rt)).heap[b]? = w8.heap[b]? := fun b hb => by
        rw [Below.heap_setCell _ _ _ _ hb, Below.heap_setCell _ _ _ _ hb]
      refine ⟨?_, ?_, ?_⟩
      · intro hne
        obtain ⟨b, o, e, hc⟩ := D8.out hne
        obtain ⟨b', o', e', hc'⟩ := DN2.out hne
        have : b = b' := by
          have := e.symm.trans e'
          injection this with this
          injection this
        have hb' : b' < w2.heap.size := lt_of_cell (hc' 0 (List.length_pos_iff.2 hne)).1
        have hbl := kp b (by omega)
        exact ⟨b, o, e, fun i hi => ⟨(World.cell?_of_block (a := ⟨b, o + i * 3, none⟩) hbl).trans (hc i hi).1, (World.cell?_of_block (a := ⟨b, o + i * 3 + 1, none⟩) hbl).trans (hc i hi).2.1, (World.cell?_of_block (a := ⟨b, o + i * 3 + 2, none⟩) hbl).trans (hc i hi).2.2⟩⟩
      · exact (dn8.of_blocks fun b hb hl => kp b (by have := B67.out.size; rw [S6.out] at this; omega)).dAt
      · exact ((Below.over BL6.out BL6.out.size B68.out).setCell (by show w.heap.size ≤ w5.heap.size; omega) _).setCell (by show w.heap.size ≤ w5.heap.size; omega) _
    clear dn8 D8
    go_wp2_with fail
    obtain ⟨F1, F2, F3⟩ := FA.out _ rfl
    have G1 := Lib.hid F1; clear F1
    have G2 := Lib.hid F2; clear F2
    have G3 := Lib.hid F3; clear F3
    generalize (w8.setCell ⟨w5.heap.size, 0, none⟩ (.slice a8 O.length cap8)).setCell ⟨w5.heap.size, 1, none⟩ (.int .i64 rt) = w9 at *
    refine (same_true G1.out G2.out rfl L1.out).mono ?_
    rintro e w10 ⟨rfl, bl10⟩
    have B10 := Lib.hid (Below.over G3.out G3.out.size bl10); clear bl10
    go_wp2_with fail
    refine (built_any w10).mono ?_
    rintro e w11 ⟨rfl, bl11⟩
    have B11 := Lib.hid (Below.over B10.out B10.out.size bl11); clear bl11
    go_wp2_with fail
    go_ret
    exact ⟨rfl, B11.out⟩
  · have e1 := E1.out (by rw [HBF.out]; exact hz)
    obtain rfl : bn = [] := HBN.out.symm.trans e1.1
    obtain rfl : br = 0 := HBR.out.symm.trans e1.2.1
    obtain rfl : be = bf := HBE.out.symm.trans (e1.2.2.trans HBF.out)
    clear e1 HBN HBR HBE E0 E1 CT CB CF CC
    have BL6 := Lib.hid (Below.over BL5.out BL5.out.size B6.out)
    have hzb : (be == 0) = false := by simpa using hz
    have HZ := Lib.hid hz; clear hz
    obtain ⟨y0, y1, y2, y3⟩ := cells2 N56.out
    go_wp2_with fail
    clear y0 y1 y2 y3
    generalize w5.alloc (.cells #[.slice none 0 0, .int .i64 0] 27) = w6 at *
    refine (same_true (O := []) (n := 0) (dAt_nil _ _) (dAt_nil _ _) rfl (by omega)).mono ?_
    rintro e w10 ⟨rfl, bl10⟩
    have B10 := Lib.hid (Below.over BL6.out BL6.out.size bl10); clear bl10
    go_wp2_with fail
    refine (built_any w10).mono ?_
    rintro e w11 ⟨rfl, bl11⟩
    have B11 := Lib.hid (Below.over B10.out B10.out.size bl11); clear bl11
    go_wp2_with fail
    go_ret
    exact ⟨rfl, B11.out⟩

end Go.Proofs.Ythhogbligfmpdaa
