/- lp.New. Printed by genMg.py. -/
import Derived.Test.YtijdglogadnbcaaZ30
import Derived.Test.YtijdglogadnbcaaZ31
import Derived.Test.YtijdglogadnbcaaZ32
import Derived.Test.YtijdglogadnbcaaZ33
set_option linter.unusedVariables false
set_option linter.unusedSimpArgs false
set_option maxRecDepth 100000
set_option maxHeartbeats 40000000
namespace Go.Proofs.Ytijdglogadnbcaa
open Go.RowKit Nt Bl
theorem new_any {w : World} {rows : List Rl} {ra : Option Addr} {rc n m N : Nat} {gl : List (Nat × Rat)} {ga : Option Addr} {gc : Nat} (hr : RlsAt w rows ra) (hm : rows.length = m) (hg : QfAt w gl ga) (hgc : gl.length ≤ gc ∧ gc ≤ 9223372036854775807) (hn : n ≤ 60) (hm60 : m ≤ 60) (hN : N = n + m + 1)
  (hv : ∀ i, i < m + 1 → ∀ j, j < (rq (alR rows gl) i).cs.length → (cq (rq (alR rows gl) i).cs j).1 < n) :
  Calls Try.prog 28 #[.slice ra m rc, .int .i64 (n : Int), .slice ga gl.length gc] w fun e w' => ∃ L, e = .returned (.pointer (some ⟨L.p, 0, none⟩)) ∧ PAt w.heap.size w' L (Pb0 (lns rows) n (cof gl)) ∧ Below w.heap.size w w' := by
 obtain ⟨i3, hi3, hz30, hz31, hz32⟩ := info_parts info3
 obtain ⟨i27, hi27, hz270, hz271, hz272⟩ := info_parts info27
 obtain ⟨vs, hvs, hva⟩ := hr
 have HVS := Lib.hid hvs; have HVA := Lib.hid hva; have AV := Lib.hid (al_all hvs hm hg hgc.1 hgc.2); have HM := Lib.hid hm; have HG := Lib.hid hg; have HGC := Lib.hid hgc; have HV := Lib.hid hv; have HNN := Lib.hid hN
 have NB : N ≤ 121 := by omega
 have eN : (n : Int) + (m : Int) + 1 = (N : Int) := by omega
 obtain ⟨PB, hPB⟩ : ∃ PB : Pb, Pb0 (lns rows) n (cof gl) = PB := ⟨_, rfl⟩
 have HPB := Lib.hid hPB
 rw [hPB]
 clear hm hg hv hN hPB hvs hva
 go_enter Try.func28, Try.ntmps28
 go_upto_region 2 with fail
 clear eN
 refine wp_only (new_r2 (Tt := PB.T) NB fun p low high now x23 x24 x25 x26 x27 x28 x29 x30 x31 x32 x33 x34 W0 hP hB => ?_) (fun _ _ h => h)
 have P0 := Lib.hid hP; have B0 := Lib.hid hB
 clear hP hB
 go_wp2_with fail
 go_loopw [36] (fun v36 wr => FrL w.heap.size w p low high now n N PB.T v36 wr) (fun v _ => n - (intOf v).toNat)
 case atStart => exact ⟨0, .slice none 0 0, Nat.zero_le _, rfl, P0.out, B0.out⟩
 case round =>
  obtain ⟨k, fv, hk, rfl, hP, hB⟩ := hrel
  have PK := Lib.hid hP; have BK := Lib.hid hB
  clear hP hB P0 B0
  by_cases hlt : k < n
  ·have h5 : wr.cell? ⟨p, 5, none⟩ = some fv := PK.out.head.2.2.2.2.2.1
   have FN : Hid ((wr.alloc (.cells #[.int .i64 (k : Int)] 3)).heap[wr.heap.size]? = some (.cells #[.int .i64 (k : Int)] 3 (0, 0))) := heap_alloc_new _ _
   have PA := Lib.hid (PK.out.below (below_new wr (.cells #[.int .i64 (k : Int)] 3)))
   have OA : Hid (Ow (wr.alloc (.cells #[.int .i64 (k : Int)] 3)) w.heap.size 3 1 fv k (ints 0 k)) := PA.out.fo
   have SZ : Hid (w.heap.size ≤ (wr.alloc (.cells #[.int .i64 (k : Int)] 3)).heap.size) := Nat.le_trans BK.out.size (below_new wr _).size
   have BA : Hid (Below w.heap.size w (wr.alloc (.cells #[.int .i64 (k : Int)] 3))) := Below.over BK.out BK.out.size (below_new wr _)
   go_wp2_with (at_builtin; refine wpList_append_ow rfl _ _ 62 rfl w.heap.size 3 i3 (.int .i64 0) 1 8 Try.underlying62 hi3 hz30 hz31 hz32 rfl (by omega) (by intro u hu; simp [Value.cells] at hu; subst hu; exact nu_int _) fv k (ints 0 k) rfl OA.out ⟨wr.heap.size, 0, none⟩ 1 1 [.int .i64 (k : Int)] rfl rfl (World.news_of_block FN.out) (by intro u hu; simp at hu; subst hu; rfl) (by intro u hu; simp at hu; subst hu; exact nu_int _) (by unfold maxLen; omega) (by omega) SZ.out ?_; intro v4 w4 hO hG hF; obtain ⟨gf4, cf4, ev4, _⟩ := hO.some (Nat.succ_pos _); subst ev4; obtain ⟨h5', f5', hPn, hBn⟩ := fr_step PA.out hO hG BA.out SZ.out; have PN := Lib.hid hPn; have BN := Lib.hid hBn; clear hO hG hF hPn hBn)
   go_roundw
   case rel => exact ⟨k + 1, _, by omega, by go_num, PN.out, BN.out⟩
   case measure => simp [intOf]; omega
  ·obtain rfl : n = k := by omega
   have PI : Hid (Pt w.heap.size wr (Zi p low high now n N PB fv (.slice none 0 0) (.slice none 0 0) (fun _ => 0) 0)) := by
    have e := HPB.out
    subst e
    exact start_i PK.out
   clear PK
   have CL := Lib.hid (cloneRows_any (rc := rc) (HVS.out.below BK.out) (fun q => by obtain ⟨g, o, e, k⟩ := HVA.out q; exact ⟨g, o, e, fun j u hu => cell_later BK.out (Nat.le_refl _) (k j u hu)⟩) HM.out (by omega))
   go_upto_region 9 with (first
    | (go_at_call 45; refine CL.out.mono ?_; rintro e w2 ⟨v2, rfl, hO2, hB2⟩; have O2 := Lib.hid (World.ownsRow.alloc hO2 (.cells #[.slice ga gl.length gc, .int .i64 0, .bool false, .slice none 0 0, .slice none 0 0] 28)); have B2 := Lib.hid hB2; have FG : Hid ((w2.alloc (.cells #[.slice ga gl.length gc, .int .i64 0, .bool false, .slice none 0 0, .slice none 0 0] 28)).heap[w2.heap.size]? = some (.cells #[.slice ga gl.length gc, .int .i64 0, .bool false, .slice none 0 0, .slice none 0 0] 28 (0, 0))) := heap_alloc_new _ _; clear hO2 hB2)
    | (at_builtin; refine wpList_append_own _ rfl _ _ 22 rfl wr.heap.size 28 i27 _ 5 88 Try.underlying22 hi27 hz270 hz271 hz272 rfl (by omega) v2 m vs rfl O2.out ⟨w2.heap.size, 0, none⟩ 1 1 [.slice ga gl.length gc, .int .i64 0, .bool false, .slice none 0 0, .slice none 0 0] rfl rfl (World.news_of_block FG.out) (by intro u hu; simp at hu; rcases hu with rfl | rfl | rfl | rfl | rfl <;> rfl) (by unfold maxLen; omega) (by omega) (Nat.le_trans B2.out.size (below_new w2 _).size) ?_; intro v5 w5 ho5 hg5 hn5; have O5 := Lib.hid ho5; have B5 := Lib.hid (below_own (Below.over B2.out B2.out.size (below_new w2 _)) O2.out (Nat.le_trans B2.out.size (below_new w2 _).size) hg5); clear ho5 hg5 hn5))
   obtain ⟨gA, cA, ev5, hAL⟩ := al_own O5.out (Nat.succ_pos _)
   subst ev5
   have AL := Lib.hid hAL; have PI5 := Lib.hid (PI.out.below B5.out); have B5w := Lib.hid (Below.over BK.out BK.out.size B5.out)
   obtain ⟨xs, hxs⟩ : ∃ xs, vs ++ [.slice ga gl.length gc, .int .i64 0, .bool false, .slice none 0 0, .slice none 0 0] = xs := ⟨_, rfl⟩
   rw [hxs] at AV AL
   clear O5 B5 hAL hxs CL O2 B2 FG PI BK HVS HVA
   go_wp2_with fail
   go_loopw [58] (fun v58 wr => NwL w.heap.size w p low high now n N m PB fv gA xs v58 wr) (fun v _ => m + 1 - (intOf v).toNat)
   case atStart => exact ⟨0, _, _, _, Nat.zero_le _, rfl, PI5.out, AL.out, B5w.out⟩
   case round =>
    obtain ⟨i, bv, tv, line, hi, rfl, hP, hA, hB⟩ := hrel
    obtain ⟨wo, rfl⟩ : ∃ W : World, W = wr := ⟨_, rfl⟩
    have PK := Lib.hid hP; have AK := Lib.hid hA; have BK := Lib.hid hB
    clear hP hA hB PI5 AL B5w
    by_cases hlt : i < m + 1
    ·obtain ⟨ca, cc, N5, hc5, hco, hle, hcap, hbd⟩ := AV.out.2 i hlt
     obtain ⟨a0, a1, a2, a3, a4⟩ := AK.out.row hc5
     have VR0 := HV.out i hlt
     obtain ⟨cs, hcs⟩ : ∃ cs, (rq (alR rows gl) i).cs = cs := ⟨_, rfl⟩
     obtain ⟨rl, hrl⟩ : ∃ rl, (rq (alR rows gl) i).rel = rl := ⟨_, rfl⟩
     obtain ⟨cl, hcl⟩ : ∃ cl, cs.length = cl := ⟨_, rfl⟩
     rw [hcs] at a0 hco hle VR0
     rw [hcl] at a0 hle VR0
     rw [hrl] at a1
     have HCS := Lib.hid hcs; have HRL := Lib.hid hrl; have HCL := Lib.hid hcl; have CO := Lib.hid (QfAt.below hco BK.out); have BD := Lib.hid hbd; have VR := Lib.hid VR0
     clear hcs hrl hcl hco hbd VR0 hc5
     have i0 : (0 : Int) ≤ (i : Int) := by omega
     have i1 : (i : Int) < ((m + 1 : Nat) : Int) := by omega
     have n0w : Hid (w.heap.size ≤ wo.heap.size) := BK.out.size
     go_upto_region 12 with fail
     have B1 := Lib.hid (below_new wo (.cells #[.slice ca cl cc, .int .i64 rl, .bool N5.s, .slice N5.a N5.n N5.c, .slice N5.b N5.m N5.d] 28))
     have X1 : Hid ((wo.alloc (.cells #[.slice ca cl cc, .int .i64 rl, .bool N5.s, .slice N5.a N5.n N5.c, .slice N5.b N5.m N5.d] 28)).heap[wo.heap.size]? = some (.cells #[.slice ca cl cc, .int .i64 rl, .bool N5.s, .slice N5.a N5.n N5.c, .slice N5.b N5.m N5.d] 28 (0, 0))) := heap_alloc_new _ _
     obtain ⟨r, hr⟩ : ∃ r, wo.heap.size = r := ⟨_, rfl⟩
     have HRR := Lib.hid hr
     rw [hr] at X1 ⊢
     generalize wo.alloc (.cells #[.slice ca cl cc, .int .i64 rl, .bool N5.s, .slice N5.a N5.n N5.c, .slice N5.b N5.m N5.d] 28) = W1 at *
     have N1 := Lib.hid (rint_any 0 (by omega) (by omega) W1)
     clear hr a0 a1 a2 a3 a4 i0 i1
     go_upto_region 13 with (first
      | (go_at_call 19; refine N1.out.mono ?_; rintro e w2 ⟨s2, d2, e2, f2, g2', h2, k2, rfl, L2, B2⟩; have L2 : RA w2 0 ⟨s2, d2, e2, f2, g2', h2, k2⟩ := L2; have XN : Hid (NQ (w2.alloc (.cells #[.bool s2, .slice d2 e2 f2, .slice g2' h2 k2] 26)) w2.heap.size ⟨s2, d2, e2, f2, g2', h2, k2⟩) := heap_alloc_new _ _; have BX2 := Lib.hid (Below.over B2 B2.size (below_new w2 (.cells #[.bool s2, .slice d2 e2 f2, .slice g2' h2 k2] 26))); have LL2 := Lib.hid (RAt.below L2 (below_new w2 (.cells #[.bool s2, .slice d2 e2 f2, .slice g2' h2 k2] 26))); clear L2 B2)
      | (go_at_call 46; refine (repN_any XN.out (by omega)).mono ?_; rintro e w4 ⟨g2, rfl, LA, GE, B4⟩; have LN0 : Hid (LineR w4 g2 n (fun _ => 0)) := LA.line (RAt.below LL2.out B4); have BX4 := Lib.hid (Below.over BX2.out BX2.out.size B4); have GE4 := Lib.hid (Nat.le_trans BX2.out.size GE); clear LA GE B4))
     have X4 : Hid (w4.heap[r]? = some (.cells #[.slice ca cl cc, .int .i64 rl, .bool N5.s, .slice N5.a N5.n N5.c, .slice N5.b N5.m N5.d] 28 (0, 0))) := (BX4.out.block r (Array.getElem?_eq_some_iff.1 X1.out).1).trans X1.out
     have B14 : Hid (Below wo.heap.size wo w4) := Below.over B1.out B1.out.size BX4.out
     have G14 : Hid (wo.heap.size ≤ g2) := Nat.le_trans B1.out.size GE4.out
     clear XN BX2 LL2 BX4 GE4 X1 B1 N1
     have q0 : w4.cell? ⟨r, 0, none⟩ = some (.slice ca cl cc) := by rw [cell_of_row w4 r 0 _ _ _ X4.out]; rfl
     go_wp2_with fail
     go_loopw [70] (fun v70 W => CoL wo g2 n r cs #[.slice ca cl cc, .int .i64 rl, .bool N5.s, .slice N5.a N5.n N5.c, .slice N5.b N5.m N5.d] v70 W) (fun v _ => cl - (intOf v).toNat)
     case atStart => exact ⟨0, Nat.zero_le _, rfl, LN0.out, B14.out, X4.out⟩
     case round =>
      obtain ⟨j, hj, rfl, hL, hB, hX⟩ := hrel
      rw [HCL.out] at hj
      have LJ := Lib.hid hL; have BJ := Lib.hid hB; have XJ := Lib.hid hX
      clear hL hB hX LN0 B14 X4 q0
      by_cases hjl : j < cl
      ·obtain ⟨g, o, eca, hcc⟩ := CO.out (by intro e; have := HCL.out; rw [e] at this; simp at this; omega)
       subst eca
       obtain ⟨N6, c0, c1, c2, c3, rN⟩ := hcc j (by rw [HCL.out]; exact hjl)
       have vn := VR.out j hjl
       obtain ⟨vv, hvv⟩ : ∃ vv, (cq cs j).1 = vv := ⟨_, rfl⟩
       obtain ⟨qq, hqq⟩ : ∃ qq, (cq cs j).2 = qq := ⟨_, rfl⟩
       rw [hvv] at c0 vn
       rw [hqq] at rN
       have NX : Hid (cofT cs (j + 1) = fun j' => if j' = vv then qq else cofT cs j j') := by
        show _ = _
        funext j'
        show (if j' = (cq cs j).1 then (cq cs j).2 else cofT cs j j') = _
        rw [hvv, hqq]
       have c0 := cell_later BJ.out (Nat.le_refl _) c0; have c1 := cell_later BJ.out (Nat.le_refl _) c1; have c2 := cell_later BJ.out (Nat.le_refl _) c2; have c3 := cell_later BJ.out (Nat.le_refl _) c3
       have rN := Lib.hid (RAt.below rN BJ.out)
       clear hcc hvv hqq
       have j0 : (0 : Int) ≤ (j : Int) := by omega
       have j1 : (j : Int) < (cl : Int) := by omega
       have v0 : (0 : Int) ≤ (vv : Int) := by omega
       have v1 : (vv : Int) < (n : Int) := by omega
       have HVN := Lib.hid vn
       go_upto_region 16 with fail
       have BN := Lib.hid (below_new wr (.cells #[.int .i64 (vv : Int), .bool N6.s, .slice N6.a N6.n N6.c, .slice N6.b N6.m N6.d] 54))
       have LK : Hid (LineR (wr.alloc (.cells #[.int .i64 (vv : Int), .bool N6.s, .slice N6.a N6.n N6.c, .slice N6.b N6.m N6.d] 54)) g2 n (cofT cs j)) := LJ.out.keep (BN.out.block _ LJ.out.blk.lt) (Limb.of_below BN.out)
       have X5 : Hid ((wr.alloc (.cells #[.int .i64 (vv : Int), .bool N6.s, .slice N6.a N6.n N6.c, .slice N6.b N6.m N6.d] 54)).heap[wr.heap.size]? = some (.cells #[.int .i64 (vv : Int), .bool N6.s, .slice N6.a N6.n N6.c, .slice N6.b N6.m N6.d] 54 (0, 0))) := heap_alloc_new _ _
       have XK : Hid ((wr.alloc (.cells #[.int .i64 (vv : Int), .bool N6.s, .slice N6.a N6.n N6.c, .slice N6.b N6.m N6.d] 54)).heap[r]? = some (.cells #[.slice (some ⟨g, o, none⟩) cl cc, .int .i64 rl, .bool N5.s, .slice N5.a N5.n N5.c, .slice N5.b N5.m N5.d] 28 (0, 0))) := (BN.out.block r (Array.getElem?_eq_some_iff.1 XJ.out).1).trans XJ.out
       have rN5 := Lib.hid (RAt.below rN.out BN.out)
       have BJ5 := Lib.hid (Below.over BJ.out BJ.out.size BN.out)
       have RG : Hid (r ≠ g2) := fun e => (Blk.ne (w := wr) (ty := 28) (ty' := 26) ⟨_, XJ.out⟩ LJ.out.blk (by decide)) e
       obtain ⟨t5, ht5⟩ : ∃ t5, wr.heap.size = t5 := ⟨_, rfl⟩
       rw [ht5] at X5 ⊢
       generalize wr.alloc (.cells #[.int .i64 (vv : Int), .bool N6.s, .slice N6.a N6.n N6.c, .slice N6.b N6.m N6.d] 54) = w6 at *
       have d0 : w6.cell? ⟨t5, 0, none⟩ = some (.int .i64 (vv : Int)) := by rw [cell_of_row w6 t5 0 _ _ _ X5.out]; rfl
       have d1 : w6.cell? ⟨t5, 1, none⟩ = some (.bool N6.s) := by rw [cell_of_row w6 t5 1 _ _ _ X5.out]; rfl
       have d2 : w6.cell? ⟨t5, 2, none⟩ = some (.slice N6.a N6.n N6.c) := by rw [cell_of_row w6 t5 2 _ _ _ X5.out]; rfl
       have d3 : w6.cell? ⟨t5, 3, none⟩ = some (.slice N6.b N6.m N6.d) := by rw [cell_of_row w6 t5 3 _ _ _ X5.out]; rfl
       obtain ⟨E, e0, e1, e2, rE⟩ := LK.out.at_ vv HVN.out
       have z0 := LK.out.blk.free (vv * 3); have z1 := LK.out.blk.free (vv * 3 + 1); have z2 := LK.out.blk.free (vv * 3 + 2)
       have HW := LK.out.wr HVN.out N6
       have LN := LK.out.set HVN.out HW rN5.out
       rw [← NX.out] at LN
       have LN := Lib.hid LN
       have BW := Lib.hid (HW.bel wo.heap.size wo G14.out BJ5.out)
       have XW := Lib.hid ((HW.oth r RG.out).trans XK.out)
       clear HW rE ht5 c0 c1 c2 c3 rN rN5 LJ BJ XJ X5 BN NX LK XK BJ5
       go_wp2_with fail
       go_roundw
       case rel => exact ⟨j + 1, by rw [HCL.out]; omega, by go_num, LN.out, BW.out, XW.out⟩
       case measure => simp [intOf]; omega
      ·obtain rfl : cl = j := by omega
       have LF : Hid (LineR wr g2 n (PB.T i)) := by
        have e : PB.T i = cofT cs cl := by
         rw [← HPB.out, alR_T (by rw [HM.out]; exact hlt), HCS.out, ← HCL.out]; rfl
        show LineR wr g2 n (PB.T i)
        rw [e]; exact LJ.out
       have PL := Lib.hid (PK.out.newLine' BJ.out G14.out LF.out n0w.out (Nat.le_refl _))
       obtain ⟨b, hb⟩ : ∃ b, b = n + i := ⟨_, rfl⟩
       have eB : (n : Int) + (i : Int) = (b : Int) := by omega
       have HB := Lib.hid hb
       clear hb LJ LF
       go_upto_region 19 with fail
       clear eB
       refine wp_only (new_r19 PL.out rfl (show (if i = i then g2 else line i) = g2 from if_pos rfl) rfl HB.out rfl rfl (Nat.le_trans n0w.out BJ.out.size) (by show i ≤ 1000; omega) (by show i ≤ 1000; omega) fun bv' tv' x84 x85 x86 x87 x88 x89 x90 x91 x92 x93 x94 x95 x96 x97 x98 x99 x100 x101 x102 x103 W7 hP7 hB7 hO7 => ?_) (fun _ _ h => h)
       have P7 : Hid (Pt w.heap.size W7 (Zw p low high now n N PB fv bv' tv' (fun k => if k = i then g2 else line k) (i + 1) (loT PB i) (hiT PB i))) := hP7
       have X7 : Hid (W7.heap[r]? = some (.cells #[.slice ca cl cc, .int .i64 rl, .bool N5.s, .slice N5.a N5.n N5.c, .slice N5.b N5.m N5.d] 28 (0, 0))) := (hO7 r 28 ⟨_, XJ.out⟩ (by decide) (by decide) (by decide)).trans XJ.out
       have A7 := Lib.hid ((AK.out.below BJ.out).keep (hO7 gA 28 (AK.out.below BJ.out).blk (by decide) (by decide) (by decide)))
       have B7 := Lib.hid (Below.trans (Below.over BK.out BK.out.size BJ.out) hB7)
       have BD7 : Hid (i < m → RA W7 (rq (alR rows gl) i).bd N5) := fun q => RAt.below (BD.out q) B7.out
       clear hP7 hB7 hO7 PL BJ XJ PK AK BK
       have c1 : W7.cell? ⟨r, 1, none⟩ = some (.int .i64 rl) := by rw [cell_of_row W7 r 1 _ _ _ X7.out]; rfl
       have c2 : W7.cell? ⟨r, 2, none⟩ = some (.bool N5.s) := by rw [cell_of_row W7 r 2 _ _ _ X7.out]; rfl
       have c3 : W7.cell? ⟨r, 3, none⟩ = some (.slice N5.a N5.n N5.c) := by rw [cell_of_row W7 r 3 _ _ _ X7.out]; rfl
       have c4 : W7.cell? ⟨r, 4, none⟩ = some (.slice N5.b N5.m N5.d) := by rw [cell_of_row W7 r 4 _ _ _ X7.out]; rfl
       have VP := Lib.hid (vplain_raw W7 N5)
       go_upto_region 22 with (go_at_call 44; refine VP.out.mono ?_; rintro e W8 ⟨S8, rfl, hL8, hB8⟩; have L8 := Lib.hid hL8; have B8 := Lib.hid hB8; clear hL8 hB8)
       have BQ : Hid (Below W7.heap.size W7 (W8.alloc (.cells #[.bool N5.s, .slice N5.a N5.n N5.c, .slice N5.b N5.m N5.d, .bool S8.s, .slice S8.a S8.n S8.c, .slice S8.b S8.m S8.d] 76))) := Below.over B8.out B8.out.size (below_new W8 _)
       have X9 : Hid (VB (W8.alloc (.cells #[.bool N5.s, .slice N5.a N5.n N5.c, .slice N5.b N5.m N5.d, .bool S8.s, .slice S8.a S8.n S8.c, .slice S8.b S8.m S8.d] 76)) W8.heap.size N5 S8) := heap_alloc_new _ _
       have RS9 : Hid (RA (W8.alloc (.cells #[.bool N5.s, .slice N5.a N5.n N5.c, .slice N5.b N5.m N5.d, .bool S8.s, .slice S8.a S8.n S8.c, .slice S8.b S8.m S8.d] 76)) 0 S8) := RAt.below L8.out (below_new W8 _)
       obtain ⟨ga9, hga9⟩ : ∃ g, W8.heap.size = g := ⟨_, rfl⟩
       rw [hga9] at X9 ⊢
       clear L8 B8 VP hga9 c1 c2 c3 c4
       generalize W8.alloc (.cells #[.bool N5.s, .slice N5.a N5.n N5.c, .slice N5.b N5.m N5.d, .bool S8.s, .slice S8.a S8.n S8.c, .slice S8.b S8.m S8.d] 76) = W9 at *
       have P9 := Lib.hid (P7.out.below BQ.out)
       have X9r : Hid (W9.heap[r]? = some (.cells #[.slice ca cl cc, .int .i64 rl, .bool N5.s, .slice N5.a N5.n N5.c, .slice N5.b N5.m N5.d] 28 (0, 0))) := (BQ.out.block r (Array.getElem?_eq_some_iff.1 X7.out).1).trans X7.out
       have A9 := Lib.hid (A7.out.below BQ.out)
       have B9 := Lib.hid (Below.over B7.out B7.out.size BQ.out)
       have BD9 : Hid (i < m → RA W9 (rq (alR rows gl) i).bd N5) := fun q => RAt.below (BD7.out q) BQ.out
       have c1 : W9.cell? ⟨r, 1, none⟩ = some (.int .i64 rl) := by rw [cell_of_row W9 r 1 _ _ _ X9r.out]; rfl
       have c2 : W9.cell? ⟨r, 2, none⟩ = some (.bool N5.s) := by rw [cell_of_row W9 r 2 _ _ _ X9r.out]; rfl
       have c3 : W9.cell? ⟨r, 3, none⟩ = some (.slice N5.a N5.n N5.c) := by rw [cell_of_row W9 r 3 _ _ _ X9r.out]; rfl
       have c4 : W9.cell? ⟨r, 4, none⟩ = some (.slice N5.b N5.m N5.d) := by rw [cell_of_row W9 r 4 _ _ _ X9r.out]; rfl
       clear P7 X7 A7 B7 BD7 BQ
       by_cases im : i = m
       ·have ib : ((i : Int) == (m : Int)) = true := by simp [im]
        have EL := Lib.hid (ends_l HPB.out HM.out (show m ≤ i by omega))
        have PN := Lib.hid (zw_zi P9.out EL.out.1 EL.out.2)
        clear im
        go_wp2_with fail
        go_roundw
        case rel =>
         repeat apply Exists.intro
         refine ⟨⟨i + 1, _, _, _, by omega, ?_, PN.out, A9.out, B9.out⟩, ?_⟩
         rotate_left
         ·rfl
         ·go_num
        case measure => simp [intOf]; omega
       ·have ib : ((i : Int) == (m : Int)) = false := by simp; omega
        have imlt : i < m := by omega
        have bN : b < N := by have := HB.out; have := HNN.out; omega
        have NBN : N ≤ 1000 := by omega
        have n09 : Hid (w.heap.size ≤ W9.heap.size) := B9.out.size
        clear im
        by_cases r1 : rl = 1
        ·subst r1
         have EE := Lib.hid (ends_1 HPB.out HM.out imlt HB.out HRL.out)
         go_upto_region 24 with fail
         refine wp_only (new_r24 (x := ⟨(rq (alR rows gl) i).bd, 0⟩) P9.out rfl bN X9.out (BD9.out imlt) RS9.out n09.out NBN fun x132 x133 x134 x135 x136 x137 x138 x139 WA hPA hBA hOA => ?_) (fun _ _ h => h)
         have PN := Lib.hid (zw_zi hPA EE.out.1 EE.out.2)
         have AN := Lib.hid (A9.out.keep (hOA gA 28 A9.out.blk (by decide)))
         have BN := Lib.hid (Below.trans B9.out hBA)
         clear hPA hBA hOA P9 A9 B9 X9 X9r c2 c3 c4 c1
         go_wp2_with fail
         go_roundw
         case rel =>
          repeat apply Exists.intro
          refine ⟨⟨i + 1, _, _, _, by omega, ?_, PN.out, AN.out, BN.out⟩, ?_⟩
          rotate_left
          ·rfl
          ·go_num
         case measure => simp [intOf]; omega
        ·by_cases r2 : rl = 2
         ·subst r2
          have EE := Lib.hid (ends_2 HPB.out HM.out imlt HB.out HRL.out)
          clear r1
          go_upto_region 26 with fail
          refine wp_only (new_r26 (q := (rq (alR rows gl) i).bd) P9.out rfl bN c2 c3 c4 (BD9.out imlt) n09.out NBN fun x144 x145 x146 x147 x148 x149 x150 x151 x152 x153 x154 WA hPA hBA hOA => ?_) (fun _ _ h => h)
          have PN := Lib.hid (zw_zi hPA EE.out.1 EE.out.2)
          have AN := Lib.hid (A9.out.keep (hOA gA 28 A9.out.blk (by decide)))
          have BN := Lib.hid (Below.trans B9.out hBA)
          clear hPA hBA hOA P9 A9 B9 X9 X9r c2 c3 c4 c1
          go_wp2_with fail
          go_roundw
          case rel =>
           repeat apply Exists.intro
           refine ⟨⟨i + 1, _, _, _, by omega, ?_, PN.out, AN.out, BN.out⟩, ?_⟩
           rotate_left
           ·rfl
           ·go_num
          case measure => simp [intOf]; omega
         ·have b1 : (rl == 1) = false := by simp [r1]
          have b2 : (rl == 2) = false := by simp [r2]
          have EE := Lib.hid (ends_3 HPB.out HM.out imlt HB.out (by rw [HRL.out]; exact r1) (by rw [HRL.out]; exact r2))
          clear r1 r2
          go_upto_region 21 with fail
          refine wp_only (new_r21 (x := ⟨(rq (alR rows gl) i).bd, 0⟩) P9.out rfl bN X9.out (BD9.out imlt) RS9.out n09.out NBN fun x107 x108 x109 x110 x111 x112 x113 x114 x115 x116 x117 x118 x119 x120 x121 x122 WA hPA hBA hOA => ?_) (fun _ _ h => h)
          have PN := Lib.hid (zw_zi hPA EE.out.1 EE.out.2)
          have AN := Lib.hid (A9.out.keep (hOA gA 28 A9.out.blk (by decide)))
          have BN := Lib.hid (Below.trans B9.out hBA)
          clear hPA hBA hOA P9 A9 B9 X9 X9r c2 c3 c4 c1
          go_wp2_with fail
          go_roundw
          case rel =>
           repeat apply Exists.intro
           refine ⟨⟨i + 1, _, _, _, by omega, ?_, PN.out, AN.out, BN.out⟩, ?_⟩
           rotate_left
           ·rfl
           ·go_num
          case measure => simp [intOf]; omega
    ·obtain rfl : i = m + 1 := by omega
     have e := HPB.out
     subst e
     obtain ⟨L, eL, hA⟩ := end_i PK.out HM.out HNN.out ⟨hn, hm60⟩
     have BF := BK.out
     subst eL
     have hA := Lib.hid hA; have BF := Lib.hid BF
     go_wp2_with fail
     go_ret
     exact ⟨L, rfl, hA.out, BF.out⟩
end Go.Proofs.Ytijdglogadnbcaa
