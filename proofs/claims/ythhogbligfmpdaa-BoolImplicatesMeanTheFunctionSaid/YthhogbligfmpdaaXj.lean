/- The law BoolApplyFollowsFormulas: its walk. -/
import Derived.Test.YthhogbligfmpdaaXe
import Derived.Test.YthhogbligfmpdaaXi
set_option linter.unusedVariables false
set_option linter.unusedSimpArgs false
namespace Go.Proofs.Ythhogbligfmpdaa
open Go.RowKit Bd

theorem fmAt_below {w w' : World} {F : Fm} {a : Option Addr} (h : FmAt w F a) (hb : Below w.heap.size w w') : FmAt w' F a := by
  induction h with
  | mk op var kids a A Cp hl h hk ih =>
    refine .mk op var kids a A Cp hl (fun hne => ?_) ih
    obtain ⟨b, o, e, hc⟩ := h hne
    exact ⟨b, o, e, fun i hi => kid_cells hb (hc i hi)⟩

theorem bldErr_zero {F : Fm} (h : bldErr F = 0) : boolErr F = 0 ∧ (cnNodes (tl (evF F))).length ≤ 2000 := by
  unfold bldErr at h
  by_cases h0 : boolErr F = 0
  · rw [if_pos h0] at h
    unfold outErr at h
    by_cases h1 : (cnNodes (tl (evF F))).length ≤ 2000
    · exact ⟨h0, h1⟩
    · rw [if_neg h1] at h; omega
  · rw [if_neg h0] at h; exact absurd h h0
theorem bld_cn {F : Fm} (h : bldErr F = 0) : bldNodes F = cnNodes (tl (evF F)) ∧ bldRoot F = cnRoot (tl (evF F)) := by
  obtain ⟨h0, h1⟩ := bldErr_zero h
  exact ⟨by simp [bldNodes, h0, outNodes, h1], by simp [bldRoot, h0, outRoot, h1]⟩
theorem bld_chk {F : Fm} (h : bldErr F = 0) : chk (bldNodes F) (bldRoot F) = 0 ∧ tb (bldNodes F) 16 (bldRoot F) = tl (evF F) := by
  obtain ⟨e1, e2⟩ := bld_cn h
  rw [e1, e2]
  exact ⟨chk_cn (tl_length _) (bldErr_zero h).2, cn_tb (tl_length _)⟩

theorem fnT_tl (f : Nat → Bool) {x : Nat} (hx : x < 65536) : fnT (tl f) x = f x := by
  unfold fnT
  rw [List.getD_eq_getElem?_getD, tl_get f hx]; rfl
theorem opT_ev {op : Int} (h : ¬ (op ≠ 4 ∧ op ≠ 5 ∧ op ≠ 6)) (F G : Fm) : opT op (tl (evF F)) (tl (evF G)) = tl (evF (.mk op 0 [F, G])) := by
  unfold opT
  refine tl_congr fun x hx => ?_
  rw [fnT_tl _ hx, fnT_tl _ hx]
  have : op = 4 ∨ op = 5 ∨ op = 6 := by omega
  rcases this with rfl | rfl | rfl <;> simp [evF, evF.evL, opF, opB]

/-- Apply of two built diagrams is the diagram of the formula that combines them. -/
theorem follow {op : Int} {F G : Fm} (h : ¬ (op ≠ 4 ∧ op ≠ 5 ∧ op ≠ 6)) (h1 : bldErr F = 0) (h2 : bldErr G = 0) (h3 : bldErr (.mk op 0 [F, G]) = 0) :
    deN (apPre op (bldNodes F) (bldRoot F) (bldNodes G) (bldRoot G)) (opT op (tb (bldNodes F) 16 (bldRoot F)) (tb (bldNodes G) 16 (bldRoot G))) = bldNodes (.mk op 0 [F, G]) ∧
    deR (apPre op (bldNodes F) (bldRoot F) (bldNodes G) (bldRoot G)) (opT op (tb (bldNodes F) 16 (bldRoot F)) (tb (bldNodes G) 16 (bldRoot G))) = bldRoot (.mk op 0 [F, G]) ∧
    deE (apPre op (bldNodes F) (bldRoot F) (bldNodes G) (bldRoot G)) (opT op (tb (bldNodes F) 16 (bldRoot F)) (tb (bldNodes G) 16 (bldRoot G))) = 0 := by
  obtain ⟨c1, t1⟩ := bld_chk h1
  obtain ⟨c2, t2⟩ := bld_chk h2
  have e := (apPre_b (op := op) (da := bldNodes F) (ra := bldRoot F) (db := bldNodes G) (rb := bldRoot G) h c1).trans c2
  obtain ⟨k1, k2⟩ := bldErr_zero h3
  obtain ⟨d1, d2, d3⟩ := de_ok e (opT op (tb (bldNodes F) 16 (bldRoot F)) (tb (bldNodes G) 16 (bldRoot G)))
  rw [d1, d2, d3, t1, t2, opT_ev h]
  refine ⟨?_, ?_, ?_⟩
  · simp [bldNodes, k1]
  · simp [bldRoot, k1]
  · simp [outErr, k2]

theorem five_new (w : World) (o1 o2 o3 o4 : Obj) : ∀ W, W = (((w.alloc o1).alloc o2).alloc o3).alloc o4 → W.heap[w.heap.size]? = some o1 ∧ W.heap[w.heap.size + 1]? = some o2 ∧ W.heap[w.heap.size + 1 + 1]? = some o3 ∧ W.heap[w.heap.size + 1 + 1 + 1]? = some o4 ∧ W.heap.size = w.heap.size + 4 ∧ Below w.heap.size w W := four_new w o1 o2 o3 o4

set_option maxRecDepth 100000 in
set_option maxHeartbeats 1000000 in
theorem law4_any {w : World} {op : Int} {F G : Fm} {a1 a2 : Option Addr} (hF : FmAt w F a1) (hG : FmAt w G a2) (c1 c2 : Nat) :
    Calls Try.prog 4 #[.int .i64 op, .agg #[.int .i64 F.op, .int .i64 F.var, .slice a1 F.kids.length c1], .agg #[.int .i64 G.op, .int .i64 G.var, .slice a2 G.kids.length c2]] w fun e w' => e = .returned (.bool true) ∧ Below w.heap.size w w' := by
  obtain ⟨x1, x2, x3, x4, x5, x6⟩ := four_new w (.cells #[.int .i64 F.op, .int .i64 F.var, .slice a1 F.kids.length c1] 24) (.cells #[.int .i64 G.op, .int .i64 G.var, .slice a2 G.kids.length c2] 24) (.cells #[.int .i64 F.op, .int .i64 F.var, .slice a1 F.kids.length c1, .int .i64 G.op, .int .i64 G.var, .slice a2 G.kids.length c2] 24) (.cells #[.int .i64 op, .int .i64 0, .slice (some ⟨w.heap.size + 1 + 1, 0, none⟩) 2 2] 24) _ rfl
  have X1 := Lib.hid x1; clear x1
  have X2 := Lib.hid x2; clear x2
  have X4 := Lib.hid x4; clear x4
  have X5 := Lib.hid x5; clear x5
  have X6 := Lib.hid x6
  have HF := Lib.hid (fmAt_below hF x6)
  have HG := Lib.hid (fmAt_below hG x6)
  have HB := Lib.hid (fmAt_two op 0 HF.out HG.out x3)
  clear hF hG x3 x6
  have CF := Lib.hid (Build_any HF.out c1)
  have CG := Lib.hid (Build_any HG.out c2)
  have CB := Lib.hid (Build_any HB.out 2)
  clear HF HG HB
  have FO := Lib.hid (follow (op := op) (F := F) (G := G))
  have LF := Lib.hid (bld_len F)
  have LG := Lib.hid (bld_len G)
  have LB := Lib.hid (bld_len (.mk op 0 [F, G]))
  have AP := Lib.hid (fun (W : World) (b1 b2 : Option Addr) (k1 k2 : Nat) (d1 : DAt W (bldNodes F) b1) (d2 : DAt W (bldNodes G) b2) => apply_any (op := op) (ca := k1) (cb := k2) (ra := bldRoot F) (rb := bldRoot G) d1 d2 rfl rfl (Nat.le_trans LF.out (by omega)) (Nat.le_trans LG.out (by omega)))
  generalize F.op = fo at *
  generalize F.var = fv at *
  generalize F.kids.length = fk at *
  generalize G.op = go at *
  generalize G.var = gv at *
  generalize G.kids.length = gk at *
  simp only [Fm.op, Fm.var, Fm.kids, List.length_cons, List.length_nil, Nat.zero_add, Nat.reduceAdd] at CB
  go_enter Try.func4, Try.ntmps4
  go_wp2_with fail
  generalize (((w.alloc (.cells #[.int .i64 fo, .int .i64 fv, .slice a1 fk c1] 24)).alloc (.cells #[.int .i64 go, .int .i64 gv, .slice a2 gk c2] 24)).alloc (.cells #[.int .i64 fo, .int .i64 fv, .slice a1 fk c1, .int .i64 go, .int .i64 gv, .slice a2 gk c2] 24)).alloc (.cells #[.int .i64 op, .int .i64 0, .slice (some ⟨w.heap.size + 1 + 1, 0, none⟩) 2 2] 24) = w1 at *
  refine (CF.out w1 (Below.refl _ _)).mono ?_
  rintro e w2 ⟨aF, kF, rfl, dF, bl2⟩
  have DF := Lib.hid dF.dAt
  have B2 := Lib.hid bl2
  have z2 : w.heap.size + 4 ≤ w2.heap.size := by have := bl2.size; rw [X5.out] at this; exact this
  have N3 := Lib.hid (heap_alloc_new w2 (.cells #[.slice aF (bldNodes F).length kF, .int .i64 (bldRoot F)] 27))
  have B3 : Hid (Below w2.heap.size w2 (w2.alloc (.cells #[.slice aF (bldNodes F).length kF, .int .i64 (bldRoot F)] 27))) := (Below.refl _ _).alloc (Nat.le_refl _) _
  have S3 : Hid ((w2.alloc (.cells #[.slice aF (bldNodes F).length kF, .int .i64 (bldRoot F)] 27)).heap.size = w2.heap.size + 1) := by show _ = _; simp
  clear dF bl2
  obtain ⟨y0, y1, y2⟩ := cells3 ((B2.out.block _ (by rw [X5.out]; omega)).trans X2.out)
  have lt1 : w.heap.size + 1 < w2.heap.size := by omega
  go_wp2_with fail
  clear y0 y1 y2
  generalize w2.alloc (.cells #[.slice aF (bldNodes F).length kF, .int .i64 (bldRoot F)] 27) = w3 at *
  have B13 := Lib.hid (Below.over B2.out B2.out.size B3.out)
  refine (CG.out w3 B13.out).mono ?_
  rintro e w4 ⟨aG, kG, rfl, dG, bl4⟩
  have DG := Lib.hid dG.dAt
  have B4 := Lib.hid bl4
  have z4 : w2.heap.size + 1 ≤ w4.heap.size := by have := bl4.size; rw [S3.out] at this; exact this
  have N5 := Lib.hid (heap_alloc_new w4 (.cells #[.slice aG (bldNodes G).length kG, .int .i64 (bldRoot G)] 27))
  have B5 : Hid (Below w4.heap.size w4 (w4.alloc (.cells #[.slice aG (bldNodes G).length kG, .int .i64 (bldRoot G)] 27))) := (Below.refl _ _).alloc (Nat.le_refl _) _
  have S5 : Hid ((w4.alloc (.cells #[.slice aG (bldNodes G).length kG, .int .i64 (bldRoot G)] 27)).heap.size = w4.heap.size + 1) := by show _ = _; simp
  clear dG bl4
  have B14 := Lib.hid (Below.over B13.out B13.out.size B4.out)
  obtain ⟨y0, y1, y2⟩ := cells3 ((B14.out.block _ (by rw [X5.out]; omega)).trans X4.out)
  have lt2 : w.heap.size + 1 + 1 + 1 < w4.heap.size := by omega
  go_wp2_with fail
  clear y0 y1 y2
  generalize w4.alloc (.cells #[.slice aG (bldNodes G).length kG, .int .i64 (bldRoot G)] 27) = w5 at *
  have B15 := Lib.hid (Below.over B14.out B14.out.size B5.out)
  refine (CB.out w5 B15.out).mono ?_
  rintro e w6 ⟨aB, kB, rfl, dB, bl6⟩
  have DB := Lib.hid dB.dAt
  have B6 := Lib.hid bl6
  have z6 : w4.heap.size + 1 ≤ w6.heap.size := by have := bl6.size; rw [S5.out] at this; exact this
  clear dB bl6
  have N7 := Lib.hid (heap_alloc_new w6 (.cells #[.slice aB (bldNodes (.mk op 0 [F, G])).length kB, .int .i64 (bldRoot (.mk op 0 [F, G]))] 27))
  have B7 : Hid (Below w6.heap.size w6 (w6.alloc (.cells #[.slice aB (bldNodes (.mk op 0 [F, G])).length kB, .int .i64 (bldRoot (.mk op 0 [F, G]))] 27))) := (Below.refl _ _).alloc (Nat.le_refl _) _
  have S7 : Hid ((w6.alloc (.cells #[.slice aB (bldNodes (.mk op 0 [F, G])).length kB, .int .i64 (bldRoot (.mk op 0 [F, G]))] 27)).heap.size = w6.heap.size + 1) := by show _ = _; simp
  have BF := Lib.hid (Below.over X6.out X6.out.size (Below.over B15.out B15.out.size (Below.over B6.out B6.out.size B7.out)))
  obtain ⟨eF, hF⟩ : ∃ x, bldErr F = x := ⟨_, rfl⟩
  obtain ⟨eG, hG⟩ : ∃ x, bldErr G = x := ⟨_, rfl⟩
  obtain ⟨eB, hB⟩ : ∃ x, bldErr (.mk op 0 [F, G]) = x := ⟨_, rfl⟩
  rw [hF, hG, hB]
  have HF := Lib.hid hF; clear hF
  have HG := Lib.hid hG; clear hG
  have HB := Lib.hid hB; clear hB
  have FIN := Lib.hid (fun (W : World) (h : Below w.heap.size w W) => (built_any W).mono fun e W' (x : e = .returned (.bool true) ∧ Below W.heap.size W W') => (⟨x.1, Below.over h h.size x.2⟩ : e = .returned (.bool true) ∧ Below w.heap.size w W'))
  by_cases q1 : eF = 0
  · subst q1
    by_cases q2 : eG = 0
    · subst q2
      by_cases q3 : eB = 0
      · subst q3
        by_cases q4 : op ≠ 4 ∧ op ≠ 5 ∧ op ≠ 6
        · have p4 : (op != 4) = true := by simpa using q4.1
          have p5 : (op != 5) = true := by simpa using q4.2.1
          have p6 : (op != 6) = true := by simpa using q4.2.2
          clear q4
          go_wp2_with fail
          refine (FIN.out _ BF.out).mono ?_
          rintro e w8 ⟨rfl, bl8⟩
          have B8 := Lib.hid bl8; clear bl8
          go_wp2_with fail
          go_ret
          exact ⟨rfl, B8.out⟩
        · have fo' := Lib.hid (FO.out q4 HF.out HG.out HB.out)
          have Q4 : Hid (op = 4 ∨ op = 5 ∨ op = 6) := by show _ ∨ _; omega
          clear FO q4
          have lt3 : w2.heap.size < w6.heap.size := by omega
          have lt4 : w4.heap.size < w6.heap.size := by omega
          have t3 := ((B6.out.block w2.heap.size (by rw [S5.out]; omega)).trans ((B5.out.block w2.heap.size (by omega)).trans ((B4.out.block w2.heap.size (by rw [S3.out]; omega)).trans N3.out)))
          have t5 := ((B6.out.block w4.heap.size (by rw [S5.out]; omega)).trans N5.out)
          have T3 := Lib.hid t3; clear t3
          have T5 := Lib.hid t5; clear t5
          have DF7 := Lib.hid (DF.out.below (Below.over B3.out B3.out.size (Below.over B4.out B4.out.size (Below.over B5.out B5.out.size (Below.over B6.out B6.out.size B7.out)))))
          have DG7 := Lib.hid (DG.out.below (Below.over B5.out B5.out.size (Below.over B6.out B6.out.size B7.out)))
          have DB7 := Lib.hid (DB.out.below B7.out)
          have A7 := Lib.hid (AP.out _ aF aG kF kG DF7.out DG7.out)
          obtain ⟨y0, y1, _⟩ := cells2 T3.out
          obtain ⟨u0, u1, _⟩ := cells2 T5.out
          have ob : ((op != 4) = false) ∨ ((op != 4) = true ∧ (op != 5) = false) ∨ ((op != 4) = true ∧ (op != 5) = true ∧ (op != 6) = false) := by
            rcases Q4.out with h | h | h <;> simp [h]
          have CON : Hid (∀ (W : World) (K : Ending → World → Prop), True) := fun _ _ => trivial
          clear CON
          rcases ob with o4 | ⟨o4, o5⟩ | ⟨o4, o5, o6⟩
          all_goals
            go_wp2_with fail
            generalize w6.alloc (.cells #[.slice aB (bldNodes (.mk op 0 [F, G])).length kB, .int .i64 (bldRoot (.mk op 0 [F, G]))] 27) = w7 at *
            refine A7.out.mono ?_
            rintro e w8 ⟨aX, kX, rfl, dX, bl8⟩
            rw [fo'.out.1, fo'.out.2.1, fo'.out.2.2]
            rw [fo'.out.1] at dX
            have DX := Lib.hid dX.dAt; clear dX
            have B8 := Lib.hid bl8; clear bl8
            have B9 : Hid (Below w8.heap.size w8 (w8.alloc (.cells #[.slice aX (bldNodes (.mk op 0 [F, G])).length kX, .int .i64 (bldRoot (.mk op 0 [F, G]))] 27))) := (Below.refl _ _).alloc (Nat.le_refl _) _
            have lt8 : w6.heap.size < w8.heap.size := by have := B8.out.size; rw [S7.out] at this; omega
            have N8 := Lib.hid ((B8.out.block w6.heap.size (by rw [S7.out]; omega)).trans N7.out)
            have ST := Lib.hid (same_true (c1 := kX) (c2 := kB) (r := bldRoot (.mk op 0 [F, G])) (DX.out.below B9.out) (DB7.out.below (Below.over B8.out B8.out.size B9.out)) rfl LB.out)
            have BF9 := Lib.hid (Below.over BF.out BF.out.size (Below.over B8.out B8.out.size B9.out))
            clear y0 y1 u0 u1
            obtain ⟨y0, y1, _⟩ := cells2 N8.out
            go_wp2_with fail
            generalize w8.alloc (.cells #[.slice aX (bldNodes (.mk op 0 [F, G])).length kX, .int .i64 (bldRoot (.mk op 0 [F, G]))] 27) = w9 at *
            refine ST.out.mono ?_
            rintro e w10 ⟨rfl, bl10⟩
            have B10 := Lib.hid (Below.over BF9.out BF9.out.size bl10); clear bl10
            go_wp2_with fail
            refine (FIN.out _ B10.out).mono ?_
            rintro e w11 ⟨rfl, bl11⟩
            have B11 := Lib.hid bl11; clear bl11
            go_wp2_with fail
            go_ret
            exact ⟨rfl, B11.out⟩
      · have p3 : (eB != 0) = true := by simpa using q3
        clear q3
        go_wp2_with fail
        refine (FIN.out _ BF.out).mono ?_
        rintro e w8 ⟨rfl, bl8⟩
        have B8 := Lib.hid bl8; clear bl8
        go_wp2_with fail
        go_ret
        exact ⟨rfl, B8.out⟩
    · have p2 : (eG != 0) = true := by simpa using q2
      clear q2
      go_wp2_with fail
      refine (FIN.out _ BF.out).mono ?_
      rintro e w8 ⟨rfl, bl8⟩
      have B8 := Lib.hid bl8; clear bl8
      go_wp2_with fail
      go_ret
      exact ⟨rfl, B8.out⟩
  · have p1 : (eF != 0) = true := by simpa using q1
    clear q1
    go_wp2_with fail
    refine (FIN.out _ BF.out).mono ?_
    rintro e w8 ⟨rfl, bl8⟩
    have B8 := Lib.hid bl8; clear bl8
    go_wp2_with fail
    go_ret
    exact ⟨rfl, B8.out⟩

end Go.Proofs.Ythhogbligfmpdaa
