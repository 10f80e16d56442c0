/- Single regions of Problem.raise and Problem.Feasible. Printed by genQd.py. -/
import Derived.Test.YtijdglogadnbcaaZ21
import Derived.Test.YtijdglogadnbcaaZ28
set_option linter.unusedVariables false
set_option linter.unusedSimpArgs false
set_option maxRecDepth 100000
set_option maxHeartbeats 40000000
namespace Go.Proofs.Ytijdglogadnbcaa
open Go.RowKit Nt Bl
theorem fe_r11 {W : World} {p now tab ln g8 N n m tc b r c : Nat} {q : Rat} {u nb : V} {M12 S12 M S N' : Nw} (b0_ : W.cell? ⟨g8, 0, none⟩ = some (.bool M12.s)) (b1_ : W.cell? ⟨g8, 1, none⟩ = some (.slice M12.a M12.n M12.c)) (b2_ : W.cell? ⟨g8, 2, none⟩ = some (.slice M12.b M12.m M12.d)) (b3_ : W.cell? ⟨g8, 3, none⟩ = some (.bool S12.s)) (b4_ : W.cell? ⟨g8, 4, none⟩ = some (.slice S12.a S12.n S12.c)) (b5_ : W.cell? ⟨g8, 5, none⟩ = some (.slice S12.b S12.m S12.d)) (q3 : W.cell? ⟨p, 3, none⟩ = some (.slice (some ⟨now, 0, none⟩) N N)) (c0_ : W.cell? ⟨now, b * 6, none⟩ = some (.bool M.s)) (c1_ : W.cell? ⟨now, b * 6 + 1, none⟩ = some (.slice M.a M.n M.c)) (c2_ : W.cell? ⟨now, b * 6 + 2, none⟩ = some (.slice M.b M.m M.d)) (c3_ : W.cell? ⟨now, b * 6 + 3, none⟩ = some (.bool S.s)) (c4_ : W.cell? ⟨now, b * 6 + 4, none⟩ = some (.slice S.a S.n S.c)) (c5_ : W.cell? ⟨now, b * 6 + 5, none⟩ = some (.slice S.b S.m S.d)) (q6 : W.cell? ⟨p, 6, none⟩ = some (.slice (some ⟨tab, 0, none⟩) m tc)) (tr_ : W.cell? ⟨tab, r, none⟩ = some (.slice (some ⟨ln, 0, none⟩) n n)) (d0_ : W.cell? ⟨ln, c * 3, none⟩ = some (.bool N'.s)) (d1_ : W.cell? ⟨ln, c * 3 + 1, none⟩ = some (.slice N'.a N'.n N'.c)) (d2_ : W.cell? ⟨ln, c * 3 + 2, none⟩ = some (.slice N'.b N'.m N'.d))
  (ru : RA W u.m M12 ∧ RA W u.s S12) (rn : RA W nb.m M ∧ RA W nb.s S) (SU : Sz u.m 1048576 ∧ Sz u.s 1048576) (SN : Sz nb.m 1048576 ∧ Sz nb.s 1048576) (rT : RA W q N') (SA : Sz q 1048576) (AN : q ≠ 0) (hbN : b < N) (hr : r < m) (hc : c < n)
  {K : Act → World → Prop} {u1 u2 u3 u5 u9 u10 u11 u12 u13 u14 u15 u16 u17 u18 u19 u20 u21 u22 u23 u24 u25 u26 u27 u28 u29 u30 u31 u32 u33 u34 u35 u36 u37 u38 u39 u40 u41 u42 u43 u44 u45 u46 u47 u48 u49 u50 u51 u52 u53 u54 u55 u56 u57 u58 u59 u60 u61 u62 u63 u64 u65 u66 u67 u68 u69 u70 u71 u72 u73 u74 u75 u76 u77 u78 u79 u80 : Value}
  (hK : ∀ (g : Nat) (M14 S14 : Nw) (x51 x52 x53 x54 x55 x56 x57 x58 x59 x60 x61 x62 x63 x64 x65 x66 x67 x68 x69 x70 x71 x72 : Value) (W' : World), VB W' g M14 S14 → RA W' (V.mul (1 / q) (u.sub nb)).m M14 → RA W' (V.mul (1 / q) (u.sub nb)).s S14 → Below W.heap.size W W' → K ⟨#[.pointer (some ⟨p, 0, none⟩), u1, u2, u3, .int .i64 (r : Int), u5, .int .i64 (c : Int), .int .i64 (b : Int), .pointer (some ⟨g8, 0, none⟩), .pointer (some ⟨g, 0, none⟩), u10, u11, u12, u13, u14, u15, u16, u17, u18, u19, u20, u21, u22, u23, u24, u25, u26, u27, u28, u29, u30, u31, u32, u33, u34, u35, u36, u37, u38, u39, u40, u41, u42, u43, u44, u45, u46, u47, u48, u49, u50, x51, x52, x53, x54, x55, x56, x57, x58, x59, x60, x61, x62, x63, x64, x65, x66, x67, x68, x69, x70, x71, x72, u73, u74, u75, u76, u77, u78, u79, u80], []⟩ W') :
  (regC Try.f29 11).wp Try.prog (Only K) ⟨#[.pointer (some ⟨p, 0, none⟩), u1, u2, u3, .int .i64 (r : Int), u5, .int .i64 (c : Int), .int .i64 (b : Int), .pointer (some ⟨g8, 0, none⟩), u9, u10, u11, u12, u13, u14, u15, u16, u17, u18, u19, u20, u21, u22, u23, u24, u25, u26, u27, u28, u29, u30, u31, u32, u33, u34, u35, u36, u37, u38, u39, u40, u41, u42, u43, u44, u45, u46, u47, u48, u49, u50, u51, u52, u53, u54, u55, u56, u57, u58, u59, u60, u61, u62, u63, u64, u65, u66, u67, u68, u69, u70, u71, u72, u73, u74, u75, u76, u77, u78, u79, u80], []⟩ W := by
 rw [show regC Try.f29 11 = _ from by (simp only [regC, Try.f29, findC, Nat.reduceEqDiff, if_true, if_false, Option.getD]; rfl)]
 have hKK := hK
 clear hK
 have KP := Lib.hid (fun (W' : World) (hB : Below W.heap.size W W') => (show W'.cell? ⟨g8, 0, none⟩ = some (.bool M12.s) ∧ W'.cell? ⟨g8, 1, none⟩ = some (.slice M12.a M12.n M12.c) ∧ W'.cell? ⟨g8, 2, none⟩ = some (.slice M12.b M12.m M12.d) ∧ W'.cell? ⟨g8, 3, none⟩ = some (.bool S12.s) ∧ W'.cell? ⟨g8, 4, none⟩ = some (.slice S12.a S12.n S12.c) ∧ W'.cell? ⟨g8, 5, none⟩ = some (.slice S12.b S12.m S12.d) ∧ W'.cell? ⟨p, 3, none⟩ = some (.slice (some ⟨now, 0, none⟩) N N) ∧ W'.cell? ⟨now, b * 6, none⟩ = some (.bool M.s) ∧ W'.cell? ⟨now, b * 6 + 1, none⟩ = some (.slice M.a M.n M.c) ∧ W'.cell? ⟨now, b * 6 + 2, none⟩ = some (.slice M.b M.m M.d) ∧ W'.cell? ⟨now, b * 6 + 3, none⟩ = some (.bool S.s) ∧ W'.cell? ⟨now, b * 6 + 4, none⟩ = some (.slice S.a S.n S.c) ∧ W'.cell? ⟨now, b * 6 + 5, none⟩ = some (.slice S.b S.m S.d) ∧ W'.cell? ⟨p, 6, none⟩ = some (.slice (some ⟨tab, 0, none⟩) m tc) ∧ W'.cell? ⟨tab, r, none⟩ = some (.slice (some ⟨ln, 0, none⟩) n n) ∧ W'.cell? ⟨ln, c * 3, none⟩ = some (.bool N'.s) ∧ W'.cell? ⟨ln, c * 3 + 1, none⟩ = some (.slice N'.a N'.n N'.c) ∧ W'.cell? ⟨ln, c * 3 + 2, none⟩ = some (.slice N'.b N'.m N'.d) from ⟨cell_later hB (Nat.le_refl _) b0_, cell_later hB (Nat.le_refl _) b1_, cell_later hB (Nat.le_refl _) b2_, cell_later hB (Nat.le_refl _) b3_, cell_later hB (Nat.le_refl _) b4_, cell_later hB (Nat.le_refl _) b5_, cell_later hB (Nat.le_refl _) q3, cell_later hB (Nat.le_refl _) c0_, cell_later hB (Nat.le_refl _) c1_, cell_later hB (Nat.le_refl _) c2_, cell_later hB (Nat.le_refl _) c3_, cell_later hB (Nat.le_refl _) c4_, cell_later hB (Nat.le_refl _) c5_, cell_later hB (Nat.le_refl _) q6, cell_later hB (Nat.le_refl _) tr_, cell_later hB (Nat.le_refl _) d0_, cell_later hB (Nat.le_refl _) d1_, cell_later hB (Nat.le_refl _) d2_⟩))
 have VZ := Lib.hid (And.intro (Sz.sub SU.1 SN.1) (Sz.sub SU.2 SN.2))
 have IZ := Lib.hid (Sz.inv SA AN)
 have b00_ : (0 : Int) ≤ (b : Int) := by omega
 have b01_ : (b : Int) < (N : Int) := by omega
 have r00_ : (0 : Int) ≤ (r : Int) := by omega
 have r01_ : (r : Int) < (m : Int) := by omega
 have k00_ : (0 : Int) ≤ (c : Int) := by omega
 have k01_ : (c : Int) < (n : Int) := by omega
 refine Rg.wpD_start 23 [] (fun W' => W'.cell? ⟨g8, 0, none⟩ = some (.bool M12.s) ∧ W'.cell? ⟨g8, 1, none⟩ = some (.slice M12.a M12.n M12.c) ∧ W'.cell? ⟨g8, 2, none⟩ = some (.slice M12.b M12.m M12.d) ∧ W'.cell? ⟨g8, 3, none⟩ = some (.bool S12.s) ∧ W'.cell? ⟨g8, 4, none⟩ = some (.slice S12.a S12.n S12.c) ∧ W'.cell? ⟨g8, 5, none⟩ = some (.slice S12.b S12.m S12.d) ∧ W'.cell? ⟨p, 3, none⟩ = some (.slice (some ⟨now, 0, none⟩) N N) ∧ W'.cell? ⟨now, b * 6, none⟩ = some (.bool M.s) ∧ W'.cell? ⟨now, b * 6 + 1, none⟩ = some (.slice M.a M.n M.c) ∧ W'.cell? ⟨now, b * 6 + 2, none⟩ = some (.slice M.b M.m M.d) ∧ W'.cell? ⟨now, b * 6 + 3, none⟩ = some (.bool S.s) ∧ W'.cell? ⟨now, b * 6 + 4, none⟩ = some (.slice S.a S.n S.c) ∧ W'.cell? ⟨now, b * 6 + 5, none⟩ = some (.slice S.b S.m S.d) ∧ W'.cell? ⟨p, 6, none⟩ = some (.slice (some ⟨tab, 0, none⟩) m tc) ∧ W'.cell? ⟨tab, r, none⟩ = some (.slice (some ⟨ln, 0, none⟩) n n) ∧ W'.cell? ⟨ln, c * 3, none⟩ = some (.bool N'.s) ∧ W'.cell? ⟨ln, c * 3 + 1, none⟩ = some (.slice N'.a N'.n N'.c) ∧ W'.cell? ⟨ln, c * 3 + 2, none⟩ = some (.slice N'.b N'.m N'.d)) (by kernel_rfl) (by kernel_rfl) ?_ (fun hS ok inv => ?_)
 ·exact ⟨b0_, b1_, b2_, b3_, b4_, b5_, q3, c0_, c1_, c2_, c3_, c4_, c5_, q6, tr_, d0_, d1_, d2_⟩
 refine Rg.tk 0 rfl ok inv hS fun inv => ?_
 refine Rg.tk 1 rfl ok inv hS fun inv => ?_
 refine Rg.tk 2 rfl ok inv hS fun inv => ?_
 refine Rg.tk 3 rfl ok inv hS fun inv => ?_
 refine Rg.tk 4 rfl ok inv hS fun inv => ?_
 refine Rg.tk 5 rfl ok inv hS fun inv => ?_
 refine Rg.tk 6 rfl ok inv hS fun inv => ?_
 refine Rg.tk 7 rfl ok inv hS fun inv => ?_
 refine Rg.tk 10 rfl ok inv hS fun inv => ?_
 refine Rg.tk 11 rfl ok inv hS fun inv => ?_
 refine Rg.tk 12 rfl ok inv hS fun inv => ?_
 refine Rg.tk 13 rfl ok inv hS fun inv => ?_
 refine Rg.tk 14 rfl ok inv hS fun inv => ?_
 refine Rg.tk 15 rfl ok inv hS fun inv => ?_
 refine Rg.tk 16 rfl ok inv hS fun inv => ?_
 refine Rg.tk 17 rfl ok inv hS fun inv => ?_
 refine Rg.tk 18 rfl ok inv hS fun inv => ?_
 refine Rg.tk 19 rfl ok inv hS fun inv => ?_
 have BC : Below W.heap.size W W.drew := (Below.refl _ _).drew
 generalize W.drew = c0 at *
 refine Rg.w2 8 22 rfl rfl inv (fun K' hK => ?_) fun K' hK => ?_
 ·(try simp only [zA, zB, zC])
  go_simp
  go_at_call 50
  refine (vsub_any (x := u) (y := nb) (RAt.below ru.1 BC) (RAt.below ru.2 BC) (RAt.below rn.1 BC) (RAt.below rn.2 BC) (Sz.mono SU.1 (by omega)) (Sz.mono SU.2 (by omega)) (Sz.mono SN.1 (by omega)) (Sz.mono SN.2 (by omega))).mono ?_
  rintro e w10 ⟨M10, S10, rfl, L1, L2, B⟩
  have D1 := And.intro L1 L2
  have BC := Below.over BC BC.size B
  have KS := KP.out w10 BC
  refine Rg.st hK ?_ fun hS inv => ?_
  ·exact KS
  clear hK K'
  refine Rg.w2 9 22 rfl rfl inv (fun K' hK => ?_) fun K' hK => ?_
  ·(try simp only [zA, zB, zC])
   go_simp
   go_at_call 19
   refine (rint_any 1 (by omega) (by omega) _).mono ?_
   rintro e w11 ⟨s11, a11, n11, c11, b11, m11, d11, rfl, L1, B⟩
   have D2 := L1
   have D1 := And.intro (RAt.below D1.1 B) (RAt.below D1.2 B)
   have BC := Below.over BC BC.size B
   have KS := KP.out w11 BC
   refine Rg.st hK ?_ fun hS inv => ?_
   ·exact KS
   clear hK K'
   refine Rg.w2 20 22 rfl rfl inv (fun K' hK => ?_) fun K' hK => ?_
   ·(try simp only [zA, zB, zC])
    go_simp
    go_at_call 52
    refine (rdiv_any D2 (RAt.below rT BC) (Sz.mono Sz.one (by omega)) (Sz.mono SA (by omega)) AN).mono ?_
    rintro e w13 ⟨s13, a13, n13, c13, b13, m13, d13, rfl, L1, B⟩
    have D3 := L1
    have D1 := And.intro (RAt.below D1.1 B) (RAt.below D1.2 B)
    have BC := Below.over BC BC.size B
    have KS := KP.out w13 BC
    refine Rg.st hK ?_ fun hS inv => ?_
    ·exact KS
    clear hK K'
    refine Rg.w2 21 22 rfl rfl inv (fun K' hK => ?_) fun K' hK => ?_
    ·(try simp only [zA, zB, zC])
     go_simp
     go_at_call 51
     refine (vtimes_any (x := u.sub nb) (q := 1 / q) (M' := ⟨s13, a13, n13, c13, b13, m13, d13⟩) D1.1 D1.2 D3 (Sz.mono VZ.out.1 (by omega)) (Sz.mono VZ.out.2 (by omega)) (Sz.mono IZ.out (by omega))).mono ?_
     rintro e w14 ⟨M14, S14, rfl, L1, L2, B⟩
     have D4 := And.intro L1 L2
     have BC := Below.over BC BC.size B
     have KS := KP.out w14 BC
     refine Rg.st hK ?_ fun hS inv => ?_
     ·exact KS
     clear hK K'
     refine Rg.w1 22 rfl inv fun K' hK => ?_
     have BN : Below W.heap.size W (w14.alloc (.cells #[.bool false, .slice none 0 0, .slice none 0 0, .bool false, .slice none 0 0, .slice none 0 0] 76)) := Below.over BC BC.size (below_new _ _)
     (try simp only [zA, zB, zC])
     go_simp
     refine Rg.st hK ?_ fun hS inv => ?_
     ·exact KP.out _ BN
     clear hK K'
     refine Rg.wl rfl ?_
     go_simp
     have BF : Below W.heap.size W (w14.alloc (.cells #[.bool M14.s, .slice M14.a M14.n M14.c, .slice M14.b M14.m M14.d, .bool S14.s, .slice S14.a S14.n S14.c, .slice S14.b S14.m S14.d] 76)) := Below.over BC BC.size (below_new _ _)
     exact hKK _ M14 S14 _ _ _ _ _ _ _ _ _ _ _ _ _ _ _ _ _ _ _ _ _ _ _ (heap_alloc_new _ _) (RAt.below D4.1 (below_new _ _)) (RAt.below D4.2 (below_new _ _)) BF
    ·have BN : Below W.heap.size W (w13.alloc (.cells #[.bool false, .slice none 0 0, .slice none 0 0, .bool false, .slice none 0 0, .slice none 0 0] 76)) := Below.over BC BC.size (below_new _ _)
     (try simp only [zA, zB, zC])
     go_simp
     refine Rg.st hK ?_ fun hS inv => ?_
     ·exact KP.out _ BN
     clear hK K'
     have GE : Hid (W.heap.size ≤ w13.heap.size) := BC.size
     have XG : VB (w13.alloc (.cells #[.bool false, .slice none 0 0, .slice none 0 0, .bool false, .slice none 0 0, .slice none 0 0] 76)) w13.heap.size Nw.zero Nw.zero := heap_alloc_new _ _
     have D1 := And.intro (RAt.below D1.1 (below_new w13 (.cells #[.bool false, .slice none 0 0, .slice none 0 0, .bool false, .slice none 0 0, .slice none 0 0] 76))) (RAt.below D1.2 (below_new w13 (.cells #[.bool false, .slice none 0 0, .slice none 0 0, .bool false, .slice none 0 0, .slice none 0 0] 76)))
     have D3 := RAt.below D3 (below_new w13 (.cells #[.bool false, .slice none 0 0, .slice none 0 0, .bool false, .slice none 0 0, .slice none 0 0] 76))
     have BC := BN
     generalize hq : w13.alloc (.cells #[.bool false, .slice none 0 0, .slice none 0 0, .bool false, .slice none 0 0, .slice none 0 0] 76) = a3 at *
     generalize w13.heap.size = ga_ at *
     clear hq
     refine Rg.w1 21 rfl inv fun K' hK => ?_
     (try simp only [zA, zB, zC])
     go_simp
     go_at_call 51
     refine (vtimes_any (x := u.sub nb) (q := 1 / q) (M' := ⟨s13, a13, n13, c13, b13, m13, d13⟩) D1.1 D1.2 D3 (Sz.mono VZ.out.1 (by omega)) (Sz.mono VZ.out.2 (by omega)) (Sz.mono IZ.out (by omega))).mono ?_
     rintro e w14 ⟨M14, S14, rfl, L1, L2, B⟩
     have D4 := And.intro L1 L2
     have XG := XG.later B XG.lt
     have BC := Below.over BC BC.size B
     have KS := KP.out w14 BC
     refine Rg.st hK ?_ fun hS inv => ?_
     ·exact KS
     clear hK K'
     obtain ⟨_, _, _, _, _, _, fz⟩ := XG.reads
     have fz0 := fz 0; have fz1 := fz 1; have fz2 := fz 2; have fz3 := fz 3; have fz4 := fz 4; have fz5 := fz 5
     have XG := Lib.hid XG
     clear fz
     refine Rg.wl rfl ?_
     go_simp
     have BF := below_set6 BC GE.out (.bool M14.s) (.slice M14.a M14.n M14.c) (.slice M14.b M14.m M14.d) (.bool S14.s) (.slice S14.a S14.n S14.c) (.slice S14.b S14.m S14.d)
     have LF := XG.out.limb6 M14 S14
     have XF := XG.out.set6 M14 S14
     have R1 := RA.limb D4.1 LF
     have R2 := RA.limb D4.2 LF
     exact hKK _ M14 S14 _ _ _ _ _ _ _ _ _ _ _ _ _ _ _ _ _ _ _ _ _ _ _ XF R1 R2 BF
   ·have BN : Below W.heap.size W (w11.alloc (.cells #[.bool false, .slice none 0 0, .slice none 0 0, .bool false, .slice none 0 0, .slice none 0 0] 76)) := Below.over BC BC.size (below_new _ _)
    (try simp only [zA, zB, zC])
    go_simp
    refine Rg.st hK ?_ fun hS inv => ?_
    ·exact KP.out _ BN
    clear hK K'
    have GE : Hid (W.heap.size ≤ w11.heap.size) := BC.size
    have XG : VB (w11.alloc (.cells #[.bool false, .slice none 0 0, .slice none 0 0, .bool false, .slice none 0 0, .slice none 0 0] 76)) w11.heap.size Nw.zero Nw.zero := heap_alloc_new _ _
    have D1 := And.intro (RAt.below D1.1 (below_new w11 (.cells #[.bool false, .slice none 0 0, .slice none 0 0, .bool false, .slice none 0 0, .slice none 0 0] 76))) (RAt.below D1.2 (below_new w11 (.cells #[.bool false, .slice none 0 0, .slice none 0 0, .bool false, .slice none 0 0, .slice none 0 0] 76)))
    have D2 := RAt.below D2 (below_new w11 (.cells #[.bool false, .slice none 0 0, .slice none 0 0, .bool false, .slice none 0 0, .slice none 0 0] 76))
    have BC := BN
    generalize hq : w11.alloc (.cells #[.bool false, .slice none 0 0, .slice none 0 0, .bool false, .slice none 0 0, .slice none 0 0] 76) = a2 at *
    generalize w11.heap.size = ga_ at *
    clear hq
    refine Rg.w1 20 rfl inv fun K' hK => ?_
    (try simp only [zA, zB, zC])
    go_simp
    go_at_call 52
    refine (rdiv_any D2 (RAt.below rT BC) (Sz.mono Sz.one (by omega)) (Sz.mono SA (by omega)) AN).mono ?_
    rintro e w13 ⟨s13, a13, n13, c13, b13, m13, d13, rfl, L1, B⟩
    have D3 := L1
    have D1 := And.intro (RAt.below D1.1 B) (RAt.below D1.2 B)
    have XG := XG.later B XG.lt
    have BC := Below.over BC BC.size B
    have KS := KP.out w13 BC
    refine Rg.st hK ?_ fun hS inv => ?_
    ·exact KS
    clear hK K'
    refine Rg.w1 21 rfl inv fun K' hK => ?_
    (try simp only [zA, zB, zC])
    go_simp
    go_at_call 51
    refine (vtimes_any (x := u.sub nb) (q := 1 / q) (M' := ⟨s13, a13, n13, c13, b13, m13, d13⟩) D1.1 D1.2 D3 (Sz.mono VZ.out.1 (by omega)) (Sz.mono VZ.out.2 (by omega)) (Sz.mono IZ.out (by omega))).mono ?_
    rintro e w14 ⟨M14, S14, rfl, L1, L2, B⟩
    have D4 := And.intro L1 L2
    have XG := XG.later B XG.lt
    have BC := Below.over BC BC.size B
    have KS := KP.out w14 BC
    refine Rg.st hK ?_ fun hS inv => ?_
    ·exact KS
    clear hK K'
    obtain ⟨_, _, _, _, _, _, fz⟩ := XG.reads
    have fz0 := fz 0; have fz1 := fz 1; have fz2 := fz 2; have fz3 := fz 3; have fz4 := fz 4; have fz5 := fz 5
    have XG := Lib.hid XG
    clear fz
    refine Rg.wl rfl ?_
    go_simp
    have BF := below_set6 BC GE.out (.bool M14.s) (.slice M14.a M14.n M14.c) (.slice M14.b M14.m M14.d) (.bool S14.s) (.slice S14.a S14.n S14.c) (.slice S14.b S14.m S14.d)
    have LF := XG.out.limb6 M14 S14
    have XF := XG.out.set6 M14 S14
    have R1 := RA.limb D4.1 LF
    have R2 := RA.limb D4.2 LF
    exact hKK _ M14 S14 _ _ _ _ _ _ _ _ _ _ _ _ _ _ _ _ _ _ _ _ _ _ _ XF R1 R2 BF
  ·have BN : Below W.heap.size W (w10.alloc (.cells #[.bool false, .slice none 0 0, .slice none 0 0, .bool false, .slice none 0 0, .slice none 0 0] 76)) := Below.over BC BC.size (below_new _ _)
   (try simp only [zA, zB, zC])
   go_simp
   refine Rg.st hK ?_ fun hS inv => ?_
   ·exact KP.out _ BN
   clear hK K'
   have GE : Hid (W.heap.size ≤ w10.heap.size) := BC.size
   have XG : VB (w10.alloc (.cells #[.bool false, .slice none 0 0, .slice none 0 0, .bool false, .slice none 0 0, .slice none 0 0] 76)) w10.heap.size Nw.zero Nw.zero := heap_alloc_new _ _
   have D1 := And.intro (RAt.below D1.1 (below_new w10 (.cells #[.bool false, .slice none 0 0, .slice none 0 0, .bool false, .slice none 0 0, .slice none 0 0] 76))) (RAt.below D1.2 (below_new w10 (.cells #[.bool false, .slice none 0 0, .slice none 0 0, .bool false, .slice none 0 0, .slice none 0 0] 76)))
   have BC := BN
   generalize hq : w10.alloc (.cells #[.bool false, .slice none 0 0, .slice none 0 0, .bool false, .slice none 0 0, .slice none 0 0] 76) = a1 at *
   generalize w10.heap.size = ga_ at *
   clear hq
   refine Rg.w1 9 rfl inv fun K' hK => ?_
   (try simp only [zA, zB, zC])
   go_simp
   go_at_call 19
   refine (rint_any 1 (by omega) (by omega) _).mono ?_
   rintro e w11 ⟨s11, a11, n11, c11, b11, m11, d11, rfl, L1, B⟩
   have D2 := L1
   have D1 := And.intro (RAt.below D1.1 B) (RAt.below D1.2 B)
   have XG := XG.later B XG.lt
   have BC := Below.over BC BC.size B
   have KS := KP.out w11 BC
   refine Rg.st hK ?_ fun hS inv => ?_
   ·exact KS
   clear hK K'
   refine Rg.w1 20 rfl inv fun K' hK => ?_
   (try simp only [zA, zB, zC])
   go_simp
   go_at_call 52
   refine (rdiv_any D2 (RAt.below rT BC) (Sz.mono Sz.one (by omega)) (Sz.mono SA (by omega)) AN).mono ?_
   rintro e w13 ⟨s13, a13, n13, c13, b13, m13, d13, rfl, L1, B⟩
   have D3 := L1
   have D1 := And.intro (RAt.below D1.1 B) (RAt.below D1.2 B)
   have XG := XG.later B XG.lt
   have BC := Below.over BC BC.size B
   have KS := KP.out w13 BC
   refine Rg.st hK ?_ fun hS inv => ?_
   ·exact KS
   clear hK K'
   refine Rg.w1 21 rfl inv fun K' hK => ?_
   (try simp only [zA, zB, zC])
   go_simp
   go_at_call 51
   refine (vtimes_any (x := u.sub nb) (q := 1 / q) (M' := ⟨s13, a13, n13, c13, b13, m13, d13⟩) D1.1 D1.2 D3 (Sz.mono VZ.out.1 (by omega)) (Sz.mono VZ.out.2 (by omega)) (Sz.mono IZ.out (by omega))).mono ?_
   rintro e w14 ⟨M14, S14, rfl, L1, L2, B⟩
   have D4 := And.intro L1 L2
   have XG := XG.later B XG.lt
   have BC := Below.over BC BC.size B
   have KS := KP.out w14 BC
   refine Rg.st hK ?_ fun hS inv => ?_
   ·exact KS
   clear hK K'
   obtain ⟨_, _, _, _, _, _, fz⟩ := XG.reads
   have fz0 := fz 0; have fz1 := fz 1; have fz2 := fz 2; have fz3 := fz 3; have fz4 := fz 4; have fz5 := fz 5
   have XG := Lib.hid XG
   clear fz
   refine Rg.wl rfl ?_
   go_simp
   have BF := below_set6 BC GE.out (.bool M14.s) (.slice M14.a M14.n M14.c) (.slice M14.b M14.m M14.d) (.bool S14.s) (.slice S14.a S14.n S14.c) (.slice S14.b S14.m S14.d)
   have LF := XG.out.limb6 M14 S14
   have XF := XG.out.set6 M14 S14
   have R1 := RA.limb D4.1 LF
   have R2 := RA.limb D4.2 LF
   exact hKK _ M14 S14 _ _ _ _ _ _ _ _ _ _ _ _ _ _ _ _ _ _ _ _ _ _ _ XF R1 R2 BF
 ·have BN : Below W.heap.size W (c0.alloc (.cells #[.bool false, .slice none 0 0, .slice none 0 0, .bool false, .slice none 0 0, .slice none 0 0] 76)) := Below.over BC BC.size (below_new _ _)
  (try simp only [zA, zB, zC])
  go_simp
  refine Rg.st hK ?_ fun hS inv => ?_
  ·exact KP.out _ BN
  clear hK K'
  have GE : Hid (W.heap.size ≤ c0.heap.size) := BC.size
  have XG : VB (c0.alloc (.cells #[.bool false, .slice none 0 0, .slice none 0 0, .bool false, .slice none 0 0, .slice none 0 0] 76)) c0.heap.size Nw.zero Nw.zero := heap_alloc_new _ _
  have BC := BN
  generalize hq : c0.alloc (.cells #[.bool false, .slice none 0 0, .slice none 0 0, .bool false, .slice none 0 0, .slice none 0 0] 76) = a0 at *
  generalize c0.heap.size = ga_ at *
  clear hq
  refine Rg.w1 8 rfl inv fun K' hK => ?_
  (try simp only [zA, zB, zC])
  go_simp
  go_at_call 50
  refine (vsub_any (x := u) (y := nb) (RAt.below ru.1 BC) (RAt.below ru.2 BC) (RAt.below rn.1 BC) (RAt.below rn.2 BC) (Sz.mono SU.1 (by omega)) (Sz.mono SU.2 (by omega)) (Sz.mono SN.1 (by omega)) (Sz.mono SN.2 (by omega))).mono ?_
  rintro e w10 ⟨M10, S10, rfl, L1, L2, B⟩
  have D1 := And.intro L1 L2
  have XG := XG.later B XG.lt
  have BC := Below.over BC BC.size B
  have KS := KP.out w10 BC
  refine Rg.st hK ?_ fun hS inv => ?_
  ·exact KS
  clear hK K'
  refine Rg.w1 9 rfl inv fun K' hK => ?_
  (try simp only [zA, zB, zC])
  go_simp
  go_at_call 19
  refine (rint_any 1 (by omega) (by omega) _).mono ?_
  rintro e w11 ⟨s11, a11, n11, c11, b11, m11, d11, rfl, L1, B⟩
  have D2 := L1
  have D1 := And.intro (RAt.below D1.1 B) (RAt.below D1.2 B)
  have XG := XG.later B XG.lt
  have BC := Below.over BC BC.size B
  have KS := KP.out w11 BC
  refine Rg.st hK ?_ fun hS inv => ?_
  ·exact KS
  clear hK K'
  refine Rg.w1 20 rfl inv fun K' hK => ?_
  (try simp only [zA, zB, zC])
  go_simp
  go_at_call 52
  refine (rdiv_any D2 (RAt.below rT BC) (Sz.mono Sz.one (by omega)) (Sz.mono SA (by omega)) AN).mono ?_
  rintro e w13 ⟨s13, a13, n13, c13, b13, m13, d13, rfl, L1, B⟩
  have D3 := L1
  have D1 := And.intro (RAt.below D1.1 B) (RAt.below D1.2 B)
  have XG := XG.later B XG.lt
  have BC := Below.over BC BC.size B
  have KS := KP.out w13 BC
  refine Rg.st hK ?_ fun hS inv => ?_
  ·exact KS
  clear hK K'
  refine Rg.w1 21 rfl inv fun K' hK => ?_
  (try simp only [zA, zB, zC])
  go_simp
  go_at_call 51
  refine (vtimes_any (x := u.sub nb) (q := 1 / q) (M' := ⟨s13, a13, n13, c13, b13, m13, d13⟩) D1.1 D1.2 D3 (Sz.mono VZ.out.1 (by omega)) (Sz.mono VZ.out.2 (by omega)) (Sz.mono IZ.out (by omega))).mono ?_
  rintro e w14 ⟨M14, S14, rfl, L1, L2, B⟩
  have D4 := And.intro L1 L2
  have XG := XG.later B XG.lt
  have BC := Below.over BC BC.size B
  have KS := KP.out w14 BC
  refine Rg.st hK ?_ fun hS inv => ?_
  ·exact KS
  clear hK K'
  obtain ⟨_, _, _, _, _, _, fz⟩ := XG.reads
  have fz0 := fz 0; have fz1 := fz 1; have fz2 := fz 2; have fz3 := fz 3; have fz4 := fz 4; have fz5 := fz 5
  have XG := Lib.hid XG
  clear fz
  refine Rg.wl rfl ?_
  go_simp
  have BF := below_set6 BC GE.out (.bool M14.s) (.slice M14.a M14.n M14.c) (.slice M14.b M14.m M14.d) (.bool S14.s) (.slice S14.a S14.n S14.c) (.slice S14.b S14.m S14.d)
  have LF := XG.out.limb6 M14 S14
  have XF := XG.out.set6 M14 S14
  have R1 := RA.limb D4.1 LF
  have R2 := RA.limb D4.2 LF
  exact hKK _ M14 S14 _ _ _ _ _ _ _ _ _ _ _ _ _ _ _ _ _ _ _ _ _ _ _ XF R1 R2 BF
end Go.Proofs.Ytijdglogadnbcaa
