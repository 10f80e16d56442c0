/- Regions of lp.New. Printed by genMe.py. -/
import Derived.Test.YtijdglogadnbcaaZ29
set_option linter.unusedVariables false
set_option linter.unusedSimpArgs false
set_option maxRecDepth 100000
set_option maxHeartbeats 40000000
namespace Go.Proofs.Ytijdglogadnbcaa
open Go.RowKit Nt Bl
theorem n_b (w : World) (M2 S2 : Nw) : Below w.heap.size w (w.alloc (.cells #[.bool M2.s, .slice M2.a M2.n M2.c, .slice M2.b M2.m M2.d, .bool S2.s, .slice S2.a S2.n S2.c, .slice S2.b S2.m S2.d] 76)) := below_new w _
theorem n_d3 {w : World} {M2 S2 : Nw} (D2 : RA w 0 M2 ∧ RA w 0 S2) : VB (w.alloc (.cells #[.bool M2.s, .slice M2.a M2.n M2.c, .slice M2.b M2.m M2.d, .bool S2.s, .slice S2.a S2.n S2.c, .slice S2.b S2.m S2.d] 76)) w.heap.size M2 S2 ∧ RA (w.alloc (.cells #[.bool M2.s, .slice M2.a M2.n M2.c, .slice M2.b M2.m M2.d, .bool S2.s, .slice S2.a S2.n S2.c, .slice S2.b S2.m S2.d] 76)) 0 M2 ∧ RA (w.alloc (.cells #[.bool M2.s, .slice M2.a M2.n M2.c, .slice M2.b M2.m M2.d, .bool S2.s, .slice S2.a S2.n S2.c, .slice S2.b S2.m S2.d] 76)) 0 S2 :=
 ⟨heap_alloc_new _ _, RAt.below D2.1 (n_b w M2 S2), RAt.below D2.2 (n_b w M2 S2)⟩
theorem n_d4 {w w' : World} {M2 S2 : Nw} {k g N : Nat} {p : Prop} (LA : Laid w' g 76 (M2.cs ++ S2.cs) N N) (D3 : p ∧ RA w 0 M2 ∧ RA w 0 S2) (B : Below w.heap.size w w') (h : k ≤ w.heap.size) (GN : w.heap.size ≤ g) : Laid w' g 76 (M2.cs ++ S2.cs) N N ∧ RA w' 0 M2 ∧ RA w' 0 S2 ∧ k ≤ g :=
 ⟨LA, RAt.below D3.2.1 B, RAt.below D3.2.2 B, Nat.le_trans h GN⟩
theorem n_f1 {w w6 : World} {gl gh gn n N : Nat} {Tt : Nat → Nat → Rat} {M S : Nw} (LH : gl ≠ gh) (h : w.heap.size ≤ w6.heap.size) (D4 : Laid w6 gn 76 (M.cs ++ S.cs) N N ∧ RA w6 0 M ∧ RA w6 0 S ∧ w.heap.size ≤ gn) (FA : FreshB w.heap.size w6 N gl) (FB : FreshB w.heap.size w6 N gh) :
  Pt w.heap.size (w6.alloc (.cells #[.int .i64 (n : Int), .slice (some ⟨gl, 0, none⟩) N N, .slice (some ⟨gh, 0, none⟩) N N, .slice (some ⟨gn, 0, none⟩) N N, .slice none 0 0, .slice none 0 0, .slice none 0 0] 98)) (Z0 w6.heap.size gl gh gn n N Tt) := by
 have B9 := below_new w6 (.cells #[.int .i64 (n : Int), .slice (some ⟨gl, 0, none⟩) N N, .slice (some ⟨gh, 0, none⟩) N N, .slice (some ⟨gn, 0, none⟩) N N, .slice none 0 0, .slice none 0 0, .slice none 0 0] 98)
 exact pt_start (heap_alloc_new _ _) (FA.below B9).1 (FB.below B9).1 (D4.1.later B9 D4.1.blk.lt) (RAt.below D4.2.1 B9) (RAt.below D4.2.2.1 B9) LH h FA.2 FB.2 D4.2.2.2
theorem n_f2 {w w6 : World} {gl gh gn n N : Nat} (BC : Below w.heap.size w w6) : Below w.heap.size w (w6.alloc (.cells #[.int .i64 (n : Int), .slice (some ⟨gl, 0, none⟩) N N, .slice (some ⟨gh, 0, none⟩) N N, .slice (some ⟨gn, 0, none⟩) N N, .slice none 0 0, .slice none 0 0, .slice none 0 0] 98)) := Below.over BC BC.size (below_new _ _)
theorem new_r2 {w : World} {N n : Nat} {Tt : Nat → Nat → Rat} (NB : N ≤ 121) {K : Act → World → Prop} {u0 u2 u3 u4 u5 u6 u8 u9 u10 u11 u12 u13 u14 u15 u16 u17 u18 u19 u20 u21 u22 u23 u24 u25 u26 u27 u28 u29 u30 u31 u32 u33 u34 u35 u36 u37 u38 u39 u40 u41 u42 u43 u44 u45 u46 u47 u48 u49 u50 u51 u52 u53 u54 u55 u56 u57 u58 u59 u60 u61 u62 u63 u64 u65 u66 u67 u68 u69 u70 u71 u72 u73 u74 u75 u76 u77 u78 u79 u80 u81 u82 u83 u84 u85 u86 u87 u88 u89 u90 u91 u92 u93 u94 u95 u96 u97 u98 u99 u100 u101 u102 u103 u104 u105 u106 u107 u108 u109 u110 u111 u112 u113 u114 u115 u116 u117 u118 u119 u120 u121 u122 u123 u124 u125 u126 u127 u128 u129 u130 u131 u132 u133 u134 u135 u136 u137 u138 u139 u140 u141 u142 u143 u144 u145 u146 u147 u148 u149 u150 u151 u152 u153 u154 u155 u156 : Value}
  (hK : ∀ (p lo hi no : Nat) (x23 x24 x25 x26 x27 x28 x29 x30 x31 x32 x33 x34 : Value) (W : World), Pt w.heap.size W (Z0 p lo hi no n N Tt) → Below w.heap.size w W → K ⟨#[u0, .int .i64 (n : Int), u2, u3, u4, u5, u6, .int .i64 (N : Int), .pointer (some ⟨p, 0, none⟩), u9, u10, u11, u12, u13, u14, u15, u16, u17, u18, u19, u20, u21, u22, x23, x24, x25, x26, x27, x28, x29, x30, x31, x32, x33, x34, u35, u36, u37, u38, u39, u40, u41, u42, u43, u44, u45, u46, u47, u48, u49, u50, u51, u52, u53, u54, u55, u56, u57, u58, u59, u60, u61, u62, u63, u64, u65, u66, u67, u68, u69, u70, u71, u72, u73, u74, u75, u76, u77, u78, u79, u80, u81, u82, u83, u84, u85, u86, u87, u88, u89, u90, u91, u92, u93, u94, u95, u96, u97, u98, u99, u100, u101, u102, u103, u104, u105, u106, u107, u108, u109, u110, u111, u112, u113, u114, u115, u116, u117, u118, u119, u120, u121, u122, u123, u124, u125, u126, u127, u128, u129, u130, u131, u132, u133, u134, u135, u136, u137, u138, u139, u140, u141, u142, u143, u144, u145, u146, u147, u148, u149, u150, u151, u152, u153, u154, u155, u156], []⟩ W) :
  (regC Try.f28 2).wp Try.prog (Only K) ⟨#[u0, .int .i64 (n : Int), u2, u3, u4, u5, u6, .int .i64 (N : Int), u8, u9, u10, u11, u12, u13, u14, u15, u16, u17, u18, u19, u20, u21, u22, u23, u24, u25, u26, u27, u28, u29, u30, u31, u32, u33, u34, u35, u36, u37, u38, u39, u40, u41, u42, u43, u44, u45, u46, u47, u48, u49, u50, u51, u52, u53, u54, u55, u56, u57, u58, u59, u60, u61, u62, u63, u64, u65, u66, u67, u68, u69, u70, u71, u72, u73, u74, u75, u76, u77, u78, u79, u80, u81, u82, u83, u84, u85, u86, u87, u88, u89, u90, u91, u92, u93, u94, u95, u96, u97, u98, u99, u100, u101, u102, u103, u104, u105, u106, u107, u108, u109, u110, u111, u112, u113, u114, u115, u116, u117, u118, u119, u120, u121, u122, u123, u124, u125, u126, u127, u128, u129, u130, u131, u132, u133, u134, u135, u136, u137, u138, u139, u140, u141, u142, u143, u144, u145, u146, u147, u148, u149, u150, u151, u152, u153, u154, u155, u156], []⟩ w := by
 obtain ⟨i2, hi2, hz20, hz21, hz22⟩ := info_parts info222
 rw [show regC Try.f28 2 = _ from by (simp only [regC, Try.f28, findC, Nat.reduceEqDiff, if_true, if_false, Option.getD]; rfl)]
 have hKK := hK
 clear hK
 refine Rg.wpD_start 11 [] (fun W => True) (by kernel_rfl) (by kernel_rfl) ?_ (fun hS ok inv => ?_)
 ·exact trivial
 refine Rg.tk 0 rfl ok inv hS fun inv => ?_
 refine Rg.tk 1 rfl ok inv hS fun inv => ?_
 refine Rg.tk 3 rfl ok inv hS fun inv => ?_
 refine Rg.tk 8 rfl ok inv hS fun inv => ?_
 have BC : Below w.heap.size w w.drew := (Below.refl _ _).drew
 refine Rg.wpD_three (k := 2) (l := 4) (m := 5) (by kernel_rfl) rfl rfl rfl (by decide) (by decide) (by decide) inv (by rfl) (by rfl) (by rfl) (fun K' hK => ?_) (fun K' hK => ?_) (fun K' hK => ?_)
 ·(try simp only [zA, zB, zC])
  refine wp_make_full _ _ 92 rfl w.heap.size 101 i2 _ 7 Try.underlying92 hi2 hz20 hz21 .i64 .i64 _ _ N (by rfl) (by rfl) rfl rfl (by rw [hz22]; omega) (by unfold maxLen; omega) BC.size ?_
  intro w1 ho hg
  have B := below_grown hg
  obtain ⟨gl_, hgl_⟩ : ∃ g, w.drew.heap.size = g := ⟨_, rfl⟩
  rw [hgl_] at ho
  have BC := Below.over BC BC.size B
  have FA : FreshB w.heap.size w1 N gl_ := bnd_made ho
  rw [hgl_]
  clear ho hg
  refine Rg.st hK trivial fun hS inv => ?_
  clear hK K' B
  refine Rg.w2 4 5 rfl rfl inv (fun K' hK => ?_) fun K' hK => ?_
  ·(try simp only [zA, zB, zC])
   refine wp_make_full _ _ 92 rfl w.heap.size 101 i2 _ 7 Try.underlying92 hi2 hz20 hz21 .i64 .i64 _ _ N (by rfl) (by rfl) rfl rfl (by rw [hz22]; omega) (by unfold maxLen; omega) BC.size ?_
   intro w2 ho hg
   have B := below_grown hg
   obtain ⟨gh_, hgh_⟩ : ∃ g, w1.heap.size = g := ⟨_, rfl⟩
   rw [hgh_] at ho
   have LH : gl_ ≠ gh_ := by have := FA.1.blk.lt; omega
   have BC := Below.over BC BC.size B
   have FA := FA.below B
   have FB : FreshB w.heap.size w2 N gh_ := bnd_made ho
   rw [hgh_]
   clear ho hg
   refine Rg.st hK trivial fun hS inv => ?_
   clear hK K' B
   refine Rg.w1 5 rfl inv fun K' hK => ?_
   (try simp only [zA, zB, zC])
   go_simp
   go_at_call 19
   refine (rint_any 0 (by omega) (by omega) _).mono ?_
   rintro e w3 ⟨s1, a1, n1, c1, b1, m1, d1, rfl, D1, B⟩
   have D1 : RA w3 0 ⟨s1, a1, n1, c1, b1, m1, d1⟩ := D1
   have BC := Below.over BC BC.size B
   have FA := FA.below B
   have FB := FB.below B
   refine Rg.st hK trivial fun hS inv => ?_
   clear hK K' B
   refine Rg.w1 6 rfl inv fun K' hK => ?_
   (try simp only [zA, zB, zC])
   go_simp
   go_at_call 44
   refine (vplain_any (M := ⟨s1, a1, n1, c1, b1, m1, d1⟩) D1).mono ?_
   rintro e w4 ⟨M2, S2, rfl, D21, D22, B⟩
   have D2 := And.intro D21 D22
   have BC := Below.over BC BC.size B
   have FA := FA.below B
   have FB := FB.below B
   refine Rg.st hK trivial fun hS inv => ?_
   clear hK K' B
   refine Rg.w1 7 rfl inv fun K' hK => ?_
   (try simp only [zA, zB, zC])
   go_simp
   have B := n_b w4 M2 S2
   have D3 := n_d3 D2
   have BC := Below.over BC BC.size B
   have FA := FA.below B
   have FB := FB.below B
   refine Rg.st hK trivial fun hS inv => ?_
   clear hK K' B
   generalize w4.alloc (.cells #[.bool M2.s, .slice M2.a M2.n M2.c, .slice M2.b M2.m M2.d, .bool S2.s, .slice S2.a S2.n S2.c, .slice S2.b S2.m S2.d] 76) = w5 at *
   generalize w4.heap.size = g3_ at *
   refine Rg.w1 9 rfl inv fun K' hK => ?_
   (try simp only [zA, zB, zC])
   go_simp
   go_at_call 43
   refine (repV_any D3.1 (by omega)).mono ?_
   rintro e w6 ⟨gn_, rfl, LA, GN, B⟩
   have D4 := n_d4 LA D3 B BC.size GN
   have BC := Below.over BC BC.size B
   have FA := FA.below B
   have FB := FB.below B
   refine Rg.st hK trivial fun hS inv => ?_
   clear hK K' B
   refine Rg.y1 10 rfl inv hS fun inv => ?_
   refine Rg.wt 11 rfl fun K' hK => ?_
   (try simp only [zA, zB, zC])
   go_simp
   refine hK.out _ _ ?_
   clear hK K'
   try simp only [Act.put, zA, zB, zC, zD, zE, zF]
   refine Rg.wt 12 rfl fun K' hK => ?_
   (try simp only [zA, zB, zC])
   go_simp
   refine hK.out _ _ ?_
   clear hK K'
   try simp only [Act.put, zA, zB, zC, zD, zE, zF]
   refine Rg.wpD_done (by kernel_rfl) ?_
   exact hKK _ gl_ gh_ gn_ _ _ _ _ _ _ _ _ _ _ _ _ _ (n_f1 LH BC.size D4 FA FB) (n_f2 BC)
  ·(try simp only [zA, zB, zC])
   go_simp
   go_at_call 19
   refine (rint_any 0 (by omega) (by omega) _).mono ?_
   rintro e w2 ⟨s1, a1, n1, c1, b1, m1, d1, rfl, D1, B⟩
   have D1 : RA w2 0 ⟨s1, a1, n1, c1, b1, m1, d1⟩ := D1
   have BC := Below.over BC BC.size B
   have FA := FA.below B
   refine Rg.st hK trivial fun hS inv => ?_
   clear hK K' B
   refine Rg.w2 4 6 rfl rfl inv (fun K' hK => ?_) fun K' hK => ?_
   ·(try simp only [zA, zB, zC])
    refine wp_make_full _ _ 92 rfl w.heap.size 101 i2 _ 7 Try.underlying92 hi2 hz20 hz21 .i64 .i64 _ _ N (by rfl) (by rfl) rfl rfl (by rw [hz22]; omega) (by unfold maxLen; omega) BC.size ?_
    intro w3 ho hg
    have B := below_grown hg
    obtain ⟨gh_, hgh_⟩ : ∃ g, w2.heap.size = g := ⟨_, rfl⟩
    rw [hgh_] at ho
    have LH : gl_ ≠ gh_ := by have := FA.1.blk.lt; omega
    have BC := Below.over BC BC.size B
    have FA := FA.below B
    have D1 := RAt.below D1 B
    have FB : FreshB w.heap.size w3 N gh_ := bnd_made ho
    rw [hgh_]
    clear ho hg
    refine Rg.st hK trivial fun hS inv => ?_
    clear hK K' B
    refine Rg.w1 6 rfl inv fun K' hK => ?_
    (try simp only [zA, zB, zC])
    go_simp
    go_at_call 44
    refine (vplain_any (M := ⟨s1, a1, n1, c1, b1, m1, d1⟩) D1).mono ?_
    rintro e w4 ⟨M2, S2, rfl, D21, D22, B⟩
    have D2 := And.intro D21 D22
    have BC := Below.over BC BC.size B
    have FA := FA.below B
    have FB := FB.below B
    refine Rg.st hK trivial fun hS inv => ?_
    clear hK K' B
    refine Rg.w1 7 rfl inv fun K' hK => ?_
    (try simp only [zA, zB, zC])
    go_simp
    have B := n_b w4 M2 S2
    have D3 := n_d3 D2
    have BC := Below.over BC BC.size B
    have FA := FA.below B
    have FB := FB.below B
    refine Rg.st hK trivial fun hS inv => ?_
    clear hK K' B
    generalize w4.alloc (.cells #[.bool M2.s, .slice M2.a M2.n M2.c, .slice M2.b M2.m M2.d, .bool S2.s, .slice S2.a S2.n S2.c, .slice S2.b S2.m S2.d] 76) = w5 at *
    generalize w4.heap.size = g3_ at *
    refine Rg.w1 9 rfl inv fun K' hK => ?_
    (try simp only [zA, zB, zC])
    go_simp
    go_at_call 43
    refine (repV_any D3.1 (by omega)).mono ?_
    rintro e w6 ⟨gn_, rfl, LA, GN, B⟩
    have D4 := n_d4 LA D3 B BC.size GN
    have BC := Below.over BC BC.size B
    have FA := FA.below B
    have FB := FB.below B
    refine Rg.st hK trivial fun hS inv => ?_
    clear hK K' B
    refine Rg.y1 10 rfl inv hS fun inv => ?_
    refine Rg.wt 11 rfl fun K' hK => ?_
    (try simp only [zA, zB, zC])
    go_simp
    refine hK.out _ _ ?_
    clear hK K'
    try simp only [Act.put, zA, zB, zC, zD, zE, zF]
    refine Rg.wt 12 rfl fun K' hK => ?_
    (try simp only [zA, zB, zC])
    go_simp
    refine hK.out _ _ ?_
    clear hK K'
    try simp only [Act.put, zA, zB, zC, zD, zE, zF]
    refine Rg.wpD_done (by kernel_rfl) ?_
    exact hKK _ gl_ gh_ gn_ _ _ _ _ _ _ _ _ _ _ _ _ _ (n_f1 LH BC.size D4 FA FB) (n_f2 BC)
   ·(try simp only [zA, zB, zC])
    go_simp
    go_at_call 44
    refine (vplain_any (M := ⟨s1, a1, n1, c1, b1, m1, d1⟩) D1).mono ?_
    rintro e w3 ⟨M2, S2, rfl, D21, D22, B⟩
    have D2 := And.intro D21 D22
    have BC := Below.over BC BC.size B
    have FA := FA.below B
    refine Rg.st hK trivial fun hS inv => ?_
    clear hK K' B
    refine Rg.w2 4 7 rfl rfl inv (fun K' hK => ?_) fun K' hK => ?_
    ·(try simp only [zA, zB, zC])
     refine wp_make_full _ _ 92 rfl w.heap.size 101 i2 _ 7 Try.underlying92 hi2 hz20 hz21 .i64 .i64 _ _ N (by rfl) (by rfl) rfl rfl (by rw [hz22]; omega) (by unfold maxLen; omega) BC.size ?_
     intro w4 ho hg
     have B := below_grown hg
     obtain ⟨gh_, hgh_⟩ : ∃ g, w3.heap.size = g := ⟨_, rfl⟩
     rw [hgh_] at ho
     have LH : gl_ ≠ gh_ := by have := FA.1.blk.lt; omega
     have BC := Below.over BC BC.size B
     have FA := FA.below B
     have D2 := And.intro (RAt.below D2.1 B) (RAt.below D2.2 B)
     have FB : FreshB w.heap.size w4 N gh_ := bnd_made ho
     rw [hgh_]
     clear ho hg
     refine Rg.st hK trivial fun hS inv => ?_
     clear hK K' B
     refine Rg.w1 7 rfl inv fun K' hK => ?_
     (try simp only [zA, zB, zC])
     go_simp
     have B := n_b w4 M2 S2
     have D3 := n_d3 D2
     have BC := Below.over BC BC.size B
     have FA := FA.below B
     have FB := FB.below B
     refine Rg.st hK trivial fun hS inv => ?_
     clear hK K' B
     generalize w4.alloc (.cells #[.bool M2.s, .slice M2.a M2.n M2.c, .slice M2.b M2.m M2.d, .bool S2.s, .slice S2.a S2.n S2.c, .slice S2.b S2.m S2.d] 76) = w5 at *
     generalize w4.heap.size = g3_ at *
     refine Rg.w1 9 rfl inv fun K' hK => ?_
     (try simp only [zA, zB, zC])
     go_simp
     go_at_call 43
     refine (repV_any D3.1 (by omega)).mono ?_
     rintro e w6 ⟨gn_, rfl, LA, GN, B⟩
     have D4 := n_d4 LA D3 B BC.size GN
     have BC := Below.over BC BC.size B
     have FA := FA.below B
     have FB := FB.below B
     refine Rg.st hK trivial fun hS inv => ?_
     clear hK K' B
     refine Rg.y1 10 rfl inv hS fun inv => ?_
     refine Rg.wt 11 rfl fun K' hK => ?_
     (try simp only [zA, zB, zC])
     go_simp
     refine hK.out _ _ ?_
     clear hK K'
     try simp only [Act.put, zA, zB, zC, zD, zE, zF]
     refine Rg.wt 12 rfl fun K' hK => ?_
     (try simp only [zA, zB, zC])
     go_simp
     refine hK.out _ _ ?_
     clear hK K'
     try simp only [Act.put, zA, zB, zC, zD, zE, zF]
     refine Rg.wpD_done (by kernel_rfl) ?_
     exact hKK _ gl_ gh_ gn_ _ _ _ _ _ _ _ _ _ _ _ _ _ (n_f1 LH BC.size D4 FA FB) (n_f2 BC)
    ·(try simp only [zA, zB, zC])
     go_simp
     have B := n_b w3 M2 S2
     have D3 := n_d3 D2
     have BC := Below.over BC BC.size B
     have FA := FA.below B
     refine Rg.st hK trivial fun hS inv => ?_
     clear hK K' B
     generalize w3.alloc (.cells #[.bool M2.s, .slice M2.a M2.n M2.c, .slice M2.b M2.m M2.d, .bool S2.s, .slice S2.a S2.n S2.c, .slice S2.b S2.m S2.d] 76) = w4 at *
     generalize w3.heap.size = g3_ at *
     refine Rg.w2 4 9 rfl rfl inv (fun K' hK => ?_) fun K' hK => ?_
     ·(try simp only [zA, zB, zC])
      refine wp_make_full _ _ 92 rfl w.heap.size 101 i2 _ 7 Try.underlying92 hi2 hz20 hz21 .i64 .i64 _ _ N (by rfl) (by rfl) rfl rfl (by rw [hz22]; omega) (by unfold maxLen; omega) BC.size ?_
      intro w5 ho hg
      have B := below_grown hg
      obtain ⟨gh_, hgh_⟩ : ∃ g, w4.heap.size = g := ⟨_, rfl⟩
      rw [hgh_] at ho
      have LH : gl_ ≠ gh_ := by have := FA.1.blk.lt; omega
      have BC := Below.over BC BC.size B
      have FA := FA.below B
      have D3 := And.intro (VB.later D3.1 B D3.1.lt) (And.intro (RAt.below D3.2.1 B) (RAt.below D3.2.2 B))
      have FB : FreshB w.heap.size w5 N gh_ := bnd_made ho
      rw [hgh_]
      clear ho hg
      refine Rg.st hK trivial fun hS inv => ?_
      clear hK K' B
      refine Rg.w1 9 rfl inv fun K' hK => ?_
      (try simp only [zA, zB, zC])
      go_simp
      go_at_call 43
      refine (repV_any D3.1 (by omega)).mono ?_
      rintro e w6 ⟨gn_, rfl, LA, GN, B⟩
      have D4 := n_d4 LA D3 B BC.size GN
      have BC := Below.over BC BC.size B
      have FA := FA.below B
      have FB := FB.below B
      refine Rg.st hK trivial fun hS inv => ?_
      clear hK K' B
      refine Rg.y1 10 rfl inv hS fun inv => ?_
      refine Rg.wt 11 rfl fun K' hK => ?_
      (try simp only [zA, zB, zC])
      go_simp
      refine hK.out _ _ ?_
      clear hK K'
      try simp only [Act.put, zA, zB, zC, zD, zE, zF]
      refine Rg.wt 12 rfl fun K' hK => ?_
      (try simp only [zA, zB, zC])
      go_simp
      refine hK.out _ _ ?_
      clear hK K'
      try simp only [Act.put, zA, zB, zC, zD, zE, zF]
      refine Rg.wpD_done (by kernel_rfl) ?_
      exact hKK _ gl_ gh_ gn_ _ _ _ _ _ _ _ _ _ _ _ _ _ (n_f1 LH BC.size D4 FA FB) (n_f2 BC)
     ·(try simp only [zA, zB, zC])
      go_simp
      go_at_call 43
      refine (repV_any D3.1 (by omega)).mono ?_
      rintro e w5 ⟨gn_, rfl, LA, GN, B⟩
      have D4 := n_d4 LA D3 B BC.size GN
      have BC := Below.over BC BC.size B
      have FA := FA.below B
      refine Rg.st hK trivial fun hS inv => ?_
      clear hK K' B
      refine Rg.w1 4 rfl inv fun K' hK => ?_
      (try simp only [zA, zB, zC])
      refine wp_make_full _ _ 92 rfl w.heap.size 101 i2 _ 7 Try.underlying92 hi2 hz20 hz21 .i64 .i64 _ _ N (by rfl) (by rfl) rfl rfl (by rw [hz22]; omega) (by unfold maxLen; omega) BC.size ?_
      intro w6 ho hg
      have B := below_grown hg
      obtain ⟨gh_, hgh_⟩ : ∃ g, w5.heap.size = g := ⟨_, rfl⟩
      rw [hgh_] at ho
      have LH : gl_ ≠ gh_ := by have := FA.1.blk.lt; omega
      have BC := Below.over BC BC.size B
      have FA := FA.below B
      have D4 := And.intro (Laid.later D4.1 B D4.1.blk.lt) (And.intro (RAt.below D4.2.1 B) (And.intro (RAt.below D4.2.2.1 B) D4.2.2.2))
      have FB : FreshB w.heap.size w6 N gh_ := bnd_made ho
      rw [hgh_]
      clear ho hg
      refine Rg.st hK trivial fun hS inv => ?_
      clear hK K' B
      refine Rg.y1 10 rfl inv hS fun inv => ?_
      refine Rg.wt 11 rfl fun K' hK => ?_
      (try simp only [zA, zB, zC])
      go_simp
      refine hK.out _ _ ?_
      clear hK K'
      try simp only [Act.put, zA, zB, zC, zD, zE, zF]
      refine Rg.wt 12 rfl fun K' hK => ?_
      (try simp only [zA, zB, zC])
      go_simp
      refine hK.out _ _ ?_
      clear hK K'
      try simp only [Act.put, zA, zB, zC, zD, zE, zF]
      refine Rg.wpD_done (by kernel_rfl) ?_
      exact hKK _ gl_ gh_ gn_ _ _ _ _ _ _ _ _ _ _ _ _ _ (n_f1 LH BC.size D4 FA FB) (n_f2 BC)
 ·(try simp only [zA, zB, zC])
  refine wp_make_full _ _ 92 rfl w.heap.size 101 i2 _ 7 Try.underlying92 hi2 hz20 hz21 .i64 .i64 _ _ N (by rfl) (by rfl) rfl rfl (by rw [hz22]; omega) (by unfold maxLen; omega) BC.size ?_
  intro w1 ho hg
  have B := below_grown hg
  obtain ⟨gh_, hgh_⟩ : ∃ g, w.drew.heap.size = g := ⟨_, rfl⟩
  rw [hgh_] at ho
  have BC := Below.over BC BC.size B
  have FB : FreshB w.heap.size w1 N gh_ := bnd_made ho
  rw [hgh_]
  clear ho hg
  refine Rg.st hK trivial fun hS inv => ?_
  clear hK K' B
  refine Rg.w2 2 5 rfl rfl inv (fun K' hK => ?_) fun K' hK => ?_
  ·(try simp only [zA, zB, zC])
   refine wp_make_full _ _ 92 rfl w.heap.size 101 i2 _ 7 Try.underlying92 hi2 hz20 hz21 .i64 .i64 _ _ N (by rfl) (by rfl) rfl rfl (by rw [hz22]; omega) (by unfold maxLen; omega) BC.size ?_
   intro w2 ho hg
   have B := below_grown hg
   obtain ⟨gl_, hgl_⟩ : ∃ g, w1.heap.size = g := ⟨_, rfl⟩
   rw [hgl_] at ho
   have LH : gl_ ≠ gh_ := by have := FB.1.blk.lt; omega
   have BC := Below.over BC BC.size B
   have FB := FB.below B
   have FA : FreshB w.heap.size w2 N gl_ := bnd_made ho
   rw [hgl_]
   clear ho hg
   refine Rg.st hK trivial fun hS inv => ?_
   clear hK K' B
   refine Rg.w1 5 rfl inv fun K' hK => ?_
   (try simp only [zA, zB, zC])
   go_simp
   go_at_call 19
   refine (rint_any 0 (by omega) (by omega) _).mono ?_
   rintro e w3 ⟨s1, a1, n1, c1, b1, m1, d1, rfl, D1, B⟩
   have D1 : RA w3 0 ⟨s1, a1, n1, c1, b1, m1, d1⟩ := D1
   have BC := Below.over BC BC.size B
   have FA := FA.below B
   have FB := FB.below B
   refine Rg.st hK trivial fun hS inv => ?_
   clear hK K' B
   refine Rg.w1 6 rfl inv fun K' hK => ?_
   (try simp only [zA, zB, zC])
   go_simp
   go_at_call 44
   refine (vplain_any (M := ⟨s1, a1, n1, c1, b1, m1, d1⟩) D1).mono ?_
   rintro e w4 ⟨M2, S2, rfl, D21, D22, B⟩
   have D2 := And.intro D21 D22
   have BC := Below.over BC BC.size B
   have FA := FA.below B
   have FB := FB.below B
   refine Rg.st hK trivial fun hS inv => ?_
   clear hK K' B
   refine Rg.w1 7 rfl inv fun K' hK => ?_
   (try simp only [zA, zB, zC])
   go_simp
   have B := n_b w4 M2 S2
   have D3 := n_d3 D2
   have BC := Below.over BC BC.size B
   have FA := FA.below B
   have FB := FB.below B
   refine Rg.st hK trivial fun hS inv => ?_
   clear hK K' B
   generalize w4.alloc (.cells #[.bool M2.s, .slice M2.a M2.n M2.c, .slice M2.b M2.m M2.d, .bool S2.s, .slice S2.a S2.n S2.c, .slice S2.b S2.m S2.d] 76) = w5 at *
   generalize w4.heap.size = g3_ at *
   refine Rg.w1 9 rfl inv fun K' hK => ?_
   (try simp only [zA, zB, zC])
   go_simp
   go_at_call 43
   refine (repV_any D3.1 (by omega)).mono ?_
   rintro e w6 ⟨gn_, rfl, LA, GN, B⟩
   have D4 := n_d4 LA D3 B BC.size GN
   have BC := Below.over BC BC.size B
   have FA := FA.below B
   have FB := FB.below B
   refine Rg.st hK trivial fun hS inv => ?_
   clear hK K' B
   refine Rg.y1 10 rfl inv hS fun inv => ?_
   refine Rg.wt 11 rfl fun K' hK => ?_
   (try simp only [zA, zB, zC])
   go_simp
   refine hK.out _ _ ?_
   clear hK K'
   try simp only [Act.put, zA, zB, zC, zD, zE, zF]
   refine Rg.wt 12 rfl fun K' hK => ?_
   (try simp only [zA, zB, zC])
   go_simp
   refine hK.out _ _ ?_
   clear hK K'
   try simp only [Act.put, zA, zB, zC, zD, zE, zF]
   refine Rg.wpD_done (by kernel_rfl) ?_
   exact hKK _ gl_ gh_ gn_ _ _ _ _ _ _ _ _ _ _ _ _ _ (n_f1 LH BC.size D4 FA FB) (n_f2 BC)
  ·(try simp only [zA, zB, zC])
   go_simp
   go_at_call 19
   refine (rint_any 0 (by omega) (by omega) _).mono ?_
   rintro e w2 ⟨s1, a1, n1, c1, b1, m1, d1, rfl, D1, B⟩
   have D1 : RA w2 0 ⟨s1, a1, n1, c1, b1, m1, d1⟩ := D1
   have BC := Below.over BC BC.size B
   have FB := FB.below B
   refine Rg.st hK trivial fun hS inv => ?_
   clear hK K' B
   refine Rg.w2 2 6 rfl rfl inv (fun K' hK => ?_) fun K' hK => ?_
   ·(try simp only [zA, zB, zC])
    refine wp_make_full _ _ 92 rfl w.heap.size 101 i2 _ 7 Try.underlying92 hi2 hz20 hz21 .i64 .i64 _ _ N (by rfl) (by rfl) rfl rfl (by rw [hz22]; omega) (by unfold maxLen; omega) BC.size ?_
    intro w3 ho hg
    have B := below_grown hg
    obtain ⟨gl_, hgl_⟩ : ∃ g, w2.heap.size = g := ⟨_, rfl⟩
    rw [hgl_] at ho
    have LH : gl_ ≠ gh_ := by have := FB.1.blk.lt; omega
    have BC := Below.over BC BC.size B
    have FB := FB.below B
    have D1 := RAt.below D1 B
    have FA : FreshB w.heap.size w3 N gl_ := bnd_made ho
    rw [hgl_]
    clear ho hg
    refine Rg.st hK trivial fun hS inv => ?_
    clear hK K' B
    refine Rg.w1 6 rfl inv fun K' hK => ?_
    (try simp only [zA, zB, zC])
    go_simp
    go_at_call 44
    refine (vplain_any (M := ⟨s1, a1, n1, c1, b1, m1, d1⟩) D1).mono ?_
    rintro e w4 ⟨M2, S2, rfl, D21, D22, B⟩
    have D2 := And.intro D21 D22
    have BC := Below.over BC BC.size B
    have FA := FA.below B
    have FB := FB.below B
    refine Rg.st hK trivial fun hS inv => ?_
    clear hK K' B
    refine Rg.w1 7 rfl inv fun K' hK => ?_
    (try simp only [zA, zB, zC])
    go_simp
    have B := n_b w4 M2 S2
    have D3 := n_d3 D2
    have BC := Below.over BC BC.size B
    have FA := FA.below B
    have FB := FB.below B
    refine Rg.st hK trivial fun hS inv => ?_
    clear hK K' B
    generalize w4.alloc (.cells #[.bool M2.s, .slice M2.a M2.n M2.c, .slice M2.b M2.m M2.d, .bool S2.s, .slice S2.a S2.n S2.c, .slice S2.b S2.m S2.d] 76) = w5 at *
    generalize w4.heap.size = g3_ at *
    refine Rg.w1 9 rfl inv fun K' hK => ?_
    (try simp only [zA, zB, zC])
    go_simp
    go_at_call 43
    refine (repV_any D3.1 (by omega)).mono ?_
    rintro e w6 ⟨gn_, rfl, LA, GN, B⟩
    have D4 := n_d4 LA D3 B BC.size GN
    have BC := Below.over BC BC.size B
    have FA := FA.below B
    have FB := FB.below B
    refine Rg.st hK trivial fun hS inv => ?_
    clear hK K' B
    refine Rg.y1 10 rfl inv hS fun inv => ?_
    refine Rg.wt 11 rfl fun K' hK => ?_
    (try simp only [zA, zB, zC])
    go_simp
    refine hK.out _ _ ?_
    clear hK K'
    try simp only [Act.put, zA, zB, zC, zD, zE, zF]
    refine Rg.wt 12 rfl fun K' hK => ?_
    (try simp only [zA, zB, zC])
    go_simp
    refine hK.out _ _ ?_
    clear hK K'
    try simp only [Act.put, zA, zB, zC, zD, zE, zF]
    refine Rg.wpD_done (by kernel_rfl) ?_
    exact hKK _ gl_ gh_ gn_ _ _ _ _ _ _ _ _ _ _ _ _ _ (n_f1 LH BC.size D4 FA FB) (n_f2 BC)
   ·(try simp only [zA, zB, zC])
    go_simp
    go_at_call 44
    refine (vplain_any (M := ⟨s1, a1, n1, c1, b1, m1, d1⟩) D1).mono ?_
    rintro e w3 ⟨M2, S2, rfl, D21, D22, B⟩
    have D2 := And.intro D21 D22
    have BC := Below.over BC BC.size B
    have FB := FB.below B
    refine Rg.st hK trivial fun hS inv => ?_
    clear hK K' B
    refine Rg.w2 2 7 rfl rfl inv (fun K' hK => ?_) fun K' hK => ?_
    ·(try simp only [zA, zB, zC])
     refine wp_make_full _ _ 92 rfl w.heap.size 101 i2 _ 7 Try.underlying92 hi2 hz20 hz21 .i64 .i64 _ _ N (by rfl) (by rfl) rfl rfl (by rw [hz22]; omega) (by unfold maxLen; omega) BC.size ?_
     intro w4 ho hg
     have B := below_grown hg
     obtain ⟨gl_, hgl_⟩ : ∃ g, w3.heap.size = g := ⟨_, rfl⟩
     rw [hgl_] at ho
     have LH : gl_ ≠ gh_ := by have := FB.1.blk.lt; omega
     have BC := Below.over BC BC.size B
     have FB := FB.below B
     have D2 := And.intro (RAt.below D2.1 B) (RAt.below D2.2 B)
     have FA : FreshB w.heap.size w4 N gl_ := bnd_made ho
     rw [hgl_]
     clear ho hg
     refine Rg.st hK trivial fun hS inv => ?_
     clear hK K' B
     refine Rg.w1 7 rfl inv fun K' hK => ?_
     (try simp only [zA, zB, zC])
     go_simp
     have B := n_b w4 M2 S2
     have D3 := n_d3 D2
     have BC := Below.over BC BC.size B
     have FA := FA.below B
     have FB := FB.below B
     refine Rg.st hK trivial fun hS inv => ?_
     clear hK K' B
     generalize w4.alloc (.cells #[.bool M2.s, .slice M2.a M2.n M2.c, .slice M2.b M2.m M2.d, .bool S2.s, .slice S2.a S2.n S2.c, .slice S2.b S2.m S2.d] 76) = w5 at *
     generalize w4.heap.size = g3_ at *
     refine Rg.w1 9 rfl inv fun K' hK => ?_
     (try simp only [zA, zB, zC])
     go_simp
     go_at_call 43
     refine (repV_any D3.1 (by omega)).mono ?_
     rintro e w6 ⟨gn_, rfl, LA, GN, B⟩
     have D4 := n_d4 LA D3 B BC.size GN
     have BC := Below.over BC BC.size B
     have FA := FA.below B
     have FB := FB.below B
     refine Rg.st hK trivial fun hS inv => ?_
     clear hK K' B
     refine Rg.y1 10 rfl inv hS fun inv => ?_
     refine Rg.wt 11 rfl fun K' hK => ?_
     (try simp only [zA, zB, zC])
     go_simp
     refine hK.out _ _ ?_
     clear hK K'
     try simp only [Act.put, zA, zB, zC, zD, zE, zF]
     refine Rg.wt 12 rfl fun K' hK => ?_
     (try simp only [zA, zB, zC])
     go_simp
     refine hK.out _ _ ?_
     clear hK K'
     try simp only [Act.put, zA, zB, zC, zD, zE, zF]
     refine Rg.wpD_done (by kernel_rfl) ?_
     exact hKK _ gl_ gh_ gn_ _ _ _ _ _ _ _ _ _ _ _ _ _ (n_f1 LH BC.size D4 FA FB) (n_f2 BC)
    ·(try simp only [zA, zB, zC])
     go_simp
     have B := n_b w3 M2 S2
     have D3 := n_d3 D2
     have BC := Below.over BC BC.size B
     have FB := FB.below B
     refine Rg.st hK trivial fun hS inv => ?_
     clear hK K' B
     generalize w3.alloc (.cells #[.bool M2.s, .slice M2.a M2.n M2.c, .slice M2.b M2.m M2.d, .bool S2.s, .slice S2.a S2.n S2.c, .slice S2.b S2.m S2.d] 76) = w4 at *
     generalize w3.heap.size = g3_ at *
     refine Rg.w2 2 9 rfl rfl inv (fun K' hK => ?_) fun K' hK => ?_
     ·(try simp only [zA, zB, zC])
      refine wp_make_full _ _ 92 rfl w.heap.size 101 i2 _ 7 Try.underlying92 hi2 hz20 hz21 .i64 .i64 _ _ N (by rfl) (by rfl) rfl rfl (by rw [hz22]; omega) (by unfold maxLen; omega) BC.size ?_
      intro w5 ho hg
      have B := below_grown hg
      obtain ⟨gl_, hgl_⟩ : ∃ g, w4.heap.size = g := ⟨_, rfl⟩
      rw [hgl_] at ho
      have LH : gl_ ≠ gh_ := by have := FB.1.blk.lt; omega
      have BC := Below.over BC BC.size B
      have FB := FB.below B
      have D3 := And.intro (VB.later D3.1 B D3.1.lt) (And.intro (RAt.below D3.2.1 B) (RAt.below D3.2.2 B))
      have FA : FreshB w.heap.size w5 N gl_ := bnd_made ho
      rw [hgl_]
      clear ho hg
      refine Rg.st hK trivial fun hS inv => ?_
      clear hK K' B
      refine Rg.w1 9 rfl inv fun K' hK => ?_
      (try simp only [zA, zB, zC])
      go_simp
      go_at_call 43
      refine (repV_any D3.1 (by omega)).mono ?_
      rintro e w6 ⟨gn_, rfl, LA, GN, B⟩
      have D4 := n_d4 LA D3 B BC.size GN
      have BC := Below.over BC BC.size B
      have FA := FA.below B
      have FB := FB.below B
      refine Rg.st hK trivial fun hS inv => ?_
      clear hK K' B
      refine Rg.y1 10 rfl inv hS fun inv => ?_
      refine Rg.wt 11 rfl fun K' hK => ?_
      (try simp only [zA, zB, zC])
      go_simp
      refine hK.out _ _ ?_
      clear hK K'
      try simp only [Act.put, zA, zB, zC, zD, zE, zF]
      refine Rg.wt 12 rfl fun K' hK => ?_
      (try simp only [zA, zB, zC])
      go_simp
      refine hK.out _ _ ?_
      clear hK K'
      try simp only [Act.put, zA, zB, zC, zD, zE, zF]
      refine Rg.wpD_done (by kernel_rfl) ?_
      exact hKK _ gl_ gh_ gn_ _ _ _ _ _ _ _ _ _ _ _ _ _ (n_f1 LH BC.size D4 FA FB) (n_f2 BC)
     ·(try simp only [zA, zB, zC])
      go_simp
      go_at_call 43
      refine (repV_any D3.1 (by omega)).mono ?_
      rintro e w5 ⟨gn_, rfl, LA, GN, B⟩
      have D4 := n_d4 LA D3 B BC.size GN
      have BC := Below.over BC BC.size B
      have FB := FB.below B
      refine Rg.st hK trivial fun hS inv => ?_
      clear hK K' B
      refine Rg.w1 2 rfl inv fun K' hK => ?_
      (try simp only [zA, zB, zC])
      refine wp_make_full _ _ 92 rfl w.heap.size 101 i2 _ 7 Try.underlying92 hi2 hz20 hz21 .i64 .i64 _ _ N (by rfl) (by rfl) rfl rfl (by rw [hz22]; omega) (by unfold maxLen; omega) BC.size ?_
      intro w6 ho hg
      have B := below_grown hg
      obtain ⟨gl_, hgl_⟩ : ∃ g, w5.heap.size = g := ⟨_, rfl⟩
      rw [hgl_] at ho
      have LH : gl_ ≠ gh_ := by have := FB.1.blk.lt; omega
      have BC := Below.over BC BC.size B
      have FB := FB.below B
      have D4 := And.intro (Laid.later D4.1 B D4.1.blk.lt) (And.intro (RAt.below D4.2.1 B) (And.intro (RAt.below D4.2.2.1 B) D4.2.2.2))
      have FA : FreshB w.heap.size w6 N gl_ := bnd_made ho
      rw [hgl_]
      clear ho hg
      refine Rg.st hK trivial fun hS inv => ?_
      clear hK K' B
      refine Rg.y1 10 rfl inv hS fun inv => ?_
      refine Rg.wt 11 rfl fun K' hK => ?_
      (try simp only [zA, zB, zC])
      go_simp
      refine hK.out _ _ ?_
      clear hK K'
      try simp only [Act.put, zA, zB, zC, zD, zE, zF]
      refine Rg.wt 12 rfl fun K' hK => ?_
      (try simp only [zA, zB, zC])
      go_simp
      refine hK.out _ _ ?_
      clear hK K'
      try simp only [Act.put, zA, zB, zC, zD, zE, zF]
      refine Rg.wpD_done (by kernel_rfl) ?_
      exact hKK _ gl_ gh_ gn_ _ _ _ _ _ _ _ _ _ _ _ _ _ (n_f1 LH BC.size D4 FA FB) (n_f2 BC)
 ·(try simp only [zA, zB, zC])
  go_simp
  go_at_call 19
  refine (rint_any 0 (by omega) (by omega) _).mono ?_
  rintro e w1 ⟨s1, a1, n1, c1, b1, m1, d1, rfl, D1, B⟩
  have D1 : RA w1 0 ⟨s1, a1, n1, c1, b1, m1, d1⟩ := D1
  have BC := Below.over BC BC.size B
  refine Rg.st hK trivial fun hS inv => ?_
  clear hK K' B
  refine Rg.wpD_three (k := 2) (l := 4) (m := 6) (by kernel_rfl) rfl rfl rfl (by decide) (by decide) (by decide) inv (by rfl) (by rfl) (by rfl) (fun K' hK => ?_) (fun K' hK => ?_) (fun K' hK => ?_)
  ·(try simp only [zA, zB, zC])
   refine wp_make_full _ _ 92 rfl w.heap.size 101 i2 _ 7 Try.underlying92 hi2 hz20 hz21 .i64 .i64 _ _ N (by rfl) (by rfl) rfl rfl (by rw [hz22]; omega) (by unfold maxLen; omega) BC.size ?_
   intro w2 ho hg
   have B := below_grown hg
   obtain ⟨gl_, hgl_⟩ : ∃ g, w1.heap.size = g := ⟨_, rfl⟩
   rw [hgl_] at ho
   have BC := Below.over BC BC.size B
   have D1 := RAt.below D1 B
   have FA : FreshB w.heap.size w2 N gl_ := bnd_made ho
   rw [hgl_]
   clear ho hg
   refine Rg.st hK trivial fun hS inv => ?_
   clear hK K' B
   refine Rg.w2 4 6 rfl rfl inv (fun K' hK => ?_) fun K' hK => ?_
   ·(try simp only [zA, zB, zC])
    refine wp_make_full _ _ 92 rfl w.heap.size 101 i2 _ 7 Try.underlying92 hi2 hz20 hz21 .i64 .i64 _ _ N (by rfl) (by rfl) rfl rfl (by rw [hz22]; omega) (by unfold maxLen; omega) BC.size ?_
    intro w3 ho hg
    have B := below_grown hg
    obtain ⟨gh_, hgh_⟩ : ∃ g, w2.heap.size = g := ⟨_, rfl⟩
    rw [hgh_] at ho
    have LH : gl_ ≠ gh_ := by have := FA.1.blk.lt; omega
    have BC := Below.over BC BC.size B
    have FA := FA.below B
    have D1 := RAt.below D1 B
    have FB : FreshB w.heap.size w3 N gh_ := bnd_made ho
    rw [hgh_]
    clear ho hg
    refine Rg.st hK trivial fun hS inv => ?_
    clear hK K' B
    refine Rg.w1 6 rfl inv fun K' hK => ?_
    (try simp only [zA, zB, zC])
    go_simp
    go_at_call 44
    refine (vplain_any (M := ⟨s1, a1, n1, c1, b1, m1, d1⟩) D1).mono ?_
    rintro e w4 ⟨M2, S2, rfl, D21, D22, B⟩
    have D2 := And.intro D21 D22
    have BC := Below.over BC BC.size B
    have FA := FA.below B
    have FB := FB.below B
    refine Rg.st hK trivial fun hS inv => ?_
    clear hK K' B
    refine Rg.w1 7 rfl inv fun K' hK => ?_
    (try simp only [zA, zB, zC])
    go_simp
    have B := n_b w4 M2 S2
    have D3 := n_d3 D2
    have BC := Below.over BC BC.size B
    have FA := FA.below B
    have FB := FB.below B
    refine Rg.st hK trivial fun hS inv => ?_
    clear hK K' B
    generalize w4.alloc (.cells #[.bool M2.s, .slice M2.a M2.n M2.c, .slice M2.b M2.m M2.d, .bool S2.s, .slice S2.a S2.n S2.c, .slice S2.b S2.m S2.d] 76) = w5 at *
    generalize w4.heap.size = g3_ at *
    refine Rg.w1 9 rfl inv fun K' hK => ?_
    (try simp only [zA, zB, zC])
    go_simp
    go_at_call 43
    refine (repV_any D3.1 (by omega)).mono ?_
    rintro e w6 ⟨gn_, rfl, LA, GN, B⟩
    have D4 := n_d4 LA D3 B BC.size GN
    have BC := Below.over BC BC.size B
    have FA := FA.below B
    have FB := FB.below B
    refine Rg.st hK trivial fun hS inv => ?_
    clear hK K' B
    refine Rg.y1 10 rfl inv hS fun inv => ?_
    refine Rg.wt 11 rfl fun K' hK => ?_
    (try simp only [zA, zB, zC])
    go_simp
    refine hK.out _ _ ?_
    clear hK K'
    try simp only [Act.put, zA, zB, zC, zD, zE, zF]
    refine Rg.wt 12 rfl fun K' hK => ?_
    (try simp only [zA, zB, zC])
    go_simp
    refine hK.out _ _ ?_
    clear hK K'
    try simp only [Act.put, zA, zB, zC, zD, zE, zF]
    refine Rg.wpD_done (by kernel_rfl) ?_
    exact hKK _ gl_ gh_ gn_ _ _ _ _ _ _ _ _ _ _ _ _ _ (n_f1 LH BC.size D4 FA FB) (n_f2 BC)
   ·(try simp only [zA, zB, zC])
    go_simp
    go_at_call 44
    refine (vplain_any (M := ⟨s1, a1, n1, c1, b1, m1, d1⟩) D1).mono ?_
    rintro e w3 ⟨M2, S2, rfl, D21, D22, B⟩
    have D2 := And.intro D21 D22
    have BC := Below.over BC BC.size B
    have FA := FA.below B
    refine Rg.st hK trivial fun hS inv => ?_
    clear hK K' B
    refine Rg.w2 4 7 rfl rfl inv (fun K' hK => ?_) fun K' hK => ?_
    ·(try simp only [zA, zB, zC])
     refine wp_make_full _ _ 92 rfl w.heap.size 101 i2 _ 7 Try.underlying92 hi2 hz20 hz21 .i64 .i64 _ _ N (by rfl) (by rfl) rfl rfl (by rw [hz22]; omega) (by unfold maxLen; omega) BC.size ?_
     intro w4 ho hg
     have B := below_grown hg
     obtain ⟨gh_, hgh_⟩ : ∃ g, w3.heap.size = g := ⟨_, rfl⟩
     rw [hgh_] at ho
     have LH : gl_ ≠ gh_ := by have := FA.1.blk.lt; omega
     have BC := Below.over BC BC.size B
     have FA := FA.below B
     have D2 := And.intro (RAt.below D2.1 B) (RAt.below D2.2 B)
     have FB : FreshB w.heap.size w4 N gh_ := bnd_made ho
     rw [hgh_]
     clear ho hg
     refine Rg.st hK trivial fun hS inv => ?_
     clear hK K' B
     refine Rg.w1 7 rfl inv fun K' hK => ?_
     (try simp only [zA, zB, zC])
     go_simp
     have B := n_b w4 M2 S2
     have D3 := n_d3 D2
     have BC := Below.over BC BC.size B
     have FA := FA.below B
     have FB := FB.below B
     refine Rg.st hK trivial fun hS inv => ?_
     clear hK K' B
     generalize w4.alloc (.cells #[.bool M2.s, .slice M2.a M2.n M2.c, .slice M2.b M2.m M2.d, .bool S2.s, .slice S2.a S2.n S2.c, .slice S2.b S2.m S2.d] 76) = w5 at *
     generalize w4.heap.size = g3_ at *
     refine Rg.w1 9 rfl inv fun K' hK => ?_
     (try simp only [zA, zB, zC])
     go_simp
     go_at_call 43
     refine (repV_any D3.1 (by omega)).mono ?_
     rintro e w6 ⟨gn_, rfl, LA, GN, B⟩
     have D4 := n_d4 LA D3 B BC.size GN
     have BC := Below.over BC BC.size B
     have FA := FA.below B
     have FB := FB.below B
     refine Rg.st hK trivial fun hS inv => ?_
     clear hK K' B
     refine Rg.y1 10 rfl inv hS fun inv => ?_
     refine Rg.wt 11 rfl fun K' hK => ?_
     (try simp only [zA, zB, zC])
     go_simp
     refine hK.out _ _ ?_
     clear hK K'
     try simp only [Act.put, zA, zB, zC, zD, zE, zF]
     refine Rg.wt 12 rfl fun K' hK => ?_
     (try simp only [zA, zB, zC])
     go_simp
     refine hK.out _ _ ?_
     clear hK K'
     try simp only [Act.put, zA, zB, zC, zD, zE, zF]
     refine Rg.wpD_done (by kernel_rfl) ?_
     exact hKK _ gl_ gh_ gn_ _ _ _ _ _ _ _ _ _ _ _ _ _ (n_f1 LH BC.size D4 FA FB) (n_f2 BC)
    ·(try simp only [zA, zB, zC])
     go_simp
     have B := n_b w3 M2 S2
     have D3 := n_d3 D2
     have BC := Below.over BC BC.size B
     have FA := FA.below B
     refine Rg.st hK trivial fun hS inv => ?_
     clear hK K' B
     generalize w3.alloc (.cells #[.bool M2.s, .slice M2.a M2.n M2.c, .slice M2.b M2.m M2.d, .bool S2.s, .slice S2.a S2.n S2.c, .slice S2.b S2.m S2.d] 76) = w4 at *
     generalize w3.heap.size = g3_ at *
     refine Rg.w2 4 9 rfl rfl inv (fun K' hK => ?_) fun K' hK => ?_
     ·(try simp only [zA, zB, zC])
      refine wp_make_full _ _ 92 rfl w.heap.size 101 i2 _ 7 Try.underlying92 hi2 hz20 hz21 .i64 .i64 _ _ N (by rfl) (by rfl) rfl rfl (by rw [hz22]; omega) (by unfold maxLen; omega) BC.size ?_
      intro w5 ho hg
      have B := below_grown hg
      obtain ⟨gh_, hgh_⟩ : ∃ g, w4.heap.size = g := ⟨_, rfl⟩
      rw [hgh_] at ho
      have LH : gl_ ≠ gh_ := by have := FA.1.blk.lt; omega
      have BC := Below.over BC BC.size B
      have FA := FA.below B
      have D3 := And.intro (VB.later D3.1 B D3.1.lt) (And.intro (RAt.below D3.2.1 B) (RAt.below D3.2.2 B))
      have FB : FreshB w.heap.size w5 N gh_ := bnd_made ho
      rw [hgh_]
      clear ho hg
      refine Rg.st hK trivial fun hS inv => ?_
      clear hK K' B
      refine Rg.w1 9 rfl inv fun K' hK => ?_
      (try simp only [zA, zB, zC])
      go_simp
      go_at_call 43
      refine (repV_any D3.1 (by omega)).mono ?_
      rintro e w6 ⟨gn_, rfl, LA, GN, B⟩
      have D4 := n_d4 LA D3 B BC.size GN
      have BC := Below.over BC BC.size B
      have FA := FA.below B
      have FB := FB.below B
      refine Rg.st hK trivial fun hS inv => ?_
      clear hK K' B
      refine Rg.y1 10 rfl inv hS fun inv => ?_
      refine Rg.wt 11 rfl fun K' hK => ?_
      (try simp only [zA, zB, zC])
      go_simp
      refine hK.out _ _ ?_
      clear hK K'
      try simp only [Act.put, zA, zB, zC, zD, zE, zF]
      refine Rg.wt 12 rfl fun K' hK => ?_
      (try simp only [zA, zB, zC])
      go_simp
      refine hK.out _ _ ?_
      clear hK K'
      try simp only [Act.put, zA, zB, zC, zD, zE, zF]
      refine Rg.wpD_done (by kernel_rfl) ?_
      exact hKK _ gl_ gh_ gn_ _ _ _ _ _ _ _ _ _ _ _ _ _ (n_f1 LH BC.size D4 FA FB) (n_f2 BC)
     ·(try simp only [zA, zB, zC])
      go_simp
      go_at_call 43
      refine (repV_any D3.1 (by omega)).mono ?_
      rintro e w5 ⟨gn_, rfl, LA, GN, B⟩
      have D4 := n_d4 LA D3 B BC.size GN
      have BC := Below.over BC BC.size B
      have FA := FA.below B
      refine Rg.st hK trivial fun hS inv => ?_
      clear hK K' B
      refine Rg.w1 4 rfl inv fun K' hK => ?_
      (try simp only [zA, zB, zC])
      refine wp_make_full _ _ 92 rfl w.heap.size 101 i2 _ 7 Try.underlying92 hi2 hz20 hz21 .i64 .i64 _ _ N (by rfl) (by rfl) rfl rfl (by rw [hz22]; omega) (by unfold maxLen; omega) BC.size ?_
      intro w6 ho hg
      have B := below_grown hg
      obtain ⟨gh_, hgh_⟩ : ∃ g, w5.heap.size = g := ⟨_, rfl⟩
      rw [hgh_] at ho
      have LH : gl_ ≠ gh_ := by have := FA.1.blk.lt; omega
      have BC := Below.over BC BC.size B
      have FA := FA.below B
      have D4 := And.intro (Laid.later D4.1 B D4.1.blk.lt) (And.intro (RAt.below D4.2.1 B) (And.intro (RAt.below D4.2.2.1 B) D4.2.2.2))
      have FB : FreshB w.heap.size w6 N gh_ := bnd_made ho
      rw [hgh_]
      clear ho hg
      refine Rg.st hK trivial fun hS inv => ?_
      clear hK K' B
      refine Rg.y1 10 rfl inv hS fun inv => ?_
      refine Rg.wt 11 rfl fun K' hK => ?_
      (try simp only [zA, zB, zC])
      go_simp
      refine hK.out _ _ ?_
      clear hK K'
      try simp only [Act.put, zA, zB, zC, zD, zE, zF]
      refine Rg.wt 12 rfl fun K' hK => ?_
      (try simp only [zA, zB, zC])
      go_simp
      refine hK.out _ _ ?_
      clear hK K'
      try simp only [Act.put, zA, zB, zC, zD, zE, zF]
      refine Rg.wpD_done (by kernel_rfl) ?_
      exact hKK _ gl_ gh_ gn_ _ _ _ _ _ _ _ _ _ _ _ _ _ (n_f1 LH BC.size D4 FA FB) (n_f2 BC)
  ·(try simp only [zA, zB, zC])
   refine wp_make_full _ _ 92 rfl w.heap.size 101 i2 _ 7 Try.underlying92 hi2 hz20 hz21 .i64 .i64 _ _ N (by rfl) (by rfl) rfl rfl (by rw [hz22]; omega) (by unfold maxLen; omega) BC.size ?_
   intro w2 ho hg
   have B := below_grown hg
   obtain ⟨gh_, hgh_⟩ : ∃ g, w1.heap.size = g := ⟨_, rfl⟩
   rw [hgh_] at ho
   have BC := Below.over BC BC.size B
   have D1 := RAt.below D1 B
   have FB : FreshB w.heap.size w2 N gh_ := bnd_made ho
   rw [hgh_]
   clear ho hg
   refine Rg.st hK trivial fun hS inv => ?_
   clear hK K' B
   refine Rg.w2 2 6 rfl rfl inv (fun K' hK => ?_) fun K' hK => ?_
   ·(try simp only [zA, zB, zC])
    refine wp_make_full _ _ 92 rfl w.heap.size 101 i2 _ 7 Try.underlying92 hi2 hz20 hz21 .i64 .i64 _ _ N (by rfl) (by rfl) rfl rfl (by rw [hz22]; omega) (by unfold maxLen; omega) BC.size ?_
    intro w3 ho hg
    have B := below_grown hg
    obtain ⟨gl_, hgl_⟩ : ∃ g, w2.heap.size = g := ⟨_, rfl⟩
    rw [hgl_] at ho
    have LH : gl_ ≠ gh_ := by have := FB.1.blk.lt; omega
    have BC := Below.over BC BC.size B
    have FB := FB.below B
    have D1 := RAt.below D1 B
    have FA : FreshB w.heap.size w3 N gl_ := bnd_made ho
    rw [hgl_]
    clear ho hg
    refine Rg.st hK trivial fun hS inv => ?_
    clear hK K' B
    refine Rg.w1 6 rfl inv fun K' hK => ?_
    (try simp only [zA, zB, zC])
    go_simp
    go_at_call 44
    refine (vplain_any (M := ⟨s1, a1, n1, c1, b1, m1, d1⟩) D1).mono ?_
    rintro e w4 ⟨M2, S2, rfl, D21, D22, B⟩
    have D2 := And.intro D21 D22
    have BC := Below.over BC BC.size B
    have FA := FA.below B
    have FB := FB.below B
    refine Rg.st hK trivial fun hS inv => ?_
    clear hK K' B
    refine Rg.w1 7 rfl inv fun K' hK => ?_
    (try simp only [zA, zB, zC])
    go_simp
    have B := n_b w4 M2 S2
    have D3 := n_d3 D2
    have BC := Below.over BC BC.size B
    have FA := FA.below B
    have FB := FB.below B
    refine Rg.st hK trivial fun hS inv => ?_
    clear hK K' B
    generalize w4.alloc (.cells #[.bool M2.s, .slice M2.a M2.n M2.c, .slice M2.b M2.m M2.d, .bool S2.s, .slice S2.a S2.n S2.c, .slice S2.b S2.m S2.d] 76) = w5 at *
    generalize w4.heap.size = g3_ at *
    refine Rg.w1 9 rfl inv fun K' hK => ?_
    (try simp only [zA, zB, zC])
    go_simp
    go_at_call 43
    refine (repV_any D3.1 (by omega)).mono ?_
    rintro e w6 ⟨gn_, rfl, LA, GN, B⟩
    have D4 := n_d4 LA D3 B BC.size GN
    have BC := Below.over BC BC.size B
    have FA := FA.below B
    have FB := FB.below B
    refine Rg.st hK trivial fun hS inv => ?_
    clear hK K' B
    refine Rg.y1 10 rfl inv hS fun inv => ?_
    refine Rg.wt 11 rfl fun K' hK => ?_
    (try simp only [zA, zB, zC])
    go_simp
    refine hK.out _ _ ?_
    clear hK K'
    try simp only [Act.put, zA, zB, zC, zD, zE, zF]
    refine Rg.wt 12 rfl fun K' hK => ?_
    (try simp only [zA, zB, zC])
    go_simp
    refine hK.out _ _ ?_
    clear hK K'
    try simp only [Act.put, zA, zB, zC, zD, zE, zF]
    refine Rg.wpD_done (by kernel_rfl) ?_
    exact hKK _ gl_ gh_ gn_ _ _ _ _ _ _ _ _ _ _ _ _ _ (n_f1 LH BC.size D4 FA FB) (n_f2 BC)
   ·(try simp only [zA, zB, zC])
    go_simp
    go_at_call 44
    refine (vplain_any (M := ⟨s1, a1, n1, c1, b1, m1, d1⟩) D1).mono ?_
    rintro e w3 ⟨M2, S2, rfl, D21, D22, B⟩
    have D2 := And.intro D21 D22
    have BC := Below.over BC BC.size B
    have FB := FB.below B
    refine Rg.st hK trivial fun hS inv => ?_
    clear hK K' B
    refine Rg.w2 2 7 rfl rfl inv (fun K' hK => ?_) fun K' hK => ?_
    ·(try simp only [zA, zB, zC])
     refine wp_make_full _ _ 92 rfl w.heap.size 101 i2 _ 7 Try.underlying92 hi2 hz20 hz21 .i64 .i64 _ _ N (by rfl) (by rfl) rfl rfl (by rw [hz22]; omega) (by unfold maxLen; omega) BC.size ?_
     intro w4 ho hg
     have B := below_grown hg
     obtain ⟨gl_, hgl_⟩ : ∃ g, w3.heap.size = g := ⟨_, rfl⟩
     rw [hgl_] at ho
     have LH : gl_ ≠ gh_ := by have := FB.1.blk.lt; omega
     have BC := Below.over BC BC.size B
     have FB := FB.below B
     have D2 := And.intro (RAt.below D2.1 B) (RAt.below D2.2 B)
     have FA : FreshB w.heap.size w4 N gl_ := bnd_made ho
     rw [hgl_]
     clear ho hg
     refine Rg.st hK trivial fun hS inv => ?_
     clear hK K' B
     refine Rg.w1 7 rfl inv fun K' hK => ?_
     (try simp only [zA, zB, zC])
     go_simp
     have B := n_b w4 M2 S2
     have D3 := n_d3 D2
     have BC := Below.over BC BC.size B
     have FA := FA.below B
     have FB := FB.below B
     refine Rg.st hK trivial fun hS inv => ?_
     clear hK K' B
     generalize w4.alloc (.cells #[.bool M2.s, .slice M2.a M2.n M2.c, .slice M2.b M2.m M2.d, .bool S2.s, .slice S2.a S2.n S2.c, .slice S2.b S2.m S2.d] 76) = w5 at *
     generalize w4.heap.size = g3_ at *
     refine Rg.w1 9 rfl inv fun K' hK => ?_
     (try simp only [zA, zB, zC])
     go_simp
     go_at_call 43
     refine (repV_any D3.1 (by omega)).mono ?_
     rintro e w6 ⟨gn_, rfl, LA, GN, B⟩
     have D4 := n_d4 LA D3 B BC.size GN
     have BC := Below.over BC BC.size B
     have FA := FA.below B
     have FB := FB.below B
     refine Rg.st hK trivial fun hS inv => ?_
     clear hK K' B
     refine Rg.y1 10 rfl inv hS fun inv => ?_
     refine Rg.wt 11 rfl fun K' hK => ?_
     (try simp only [zA, zB, zC])
     go_simp
     refine hK.out _ _ ?_
     clear hK K'
     try simp only [Act.put, zA, zB, zC, zD, zE, zF]
     refine Rg.wt 12 rfl fun K' hK => ?_
     (try simp only [zA, zB, zC])
     go_simp
     refine hK.out _ _ ?_
     clear hK K'
     try simp only [Act.put, zA, zB, zC, zD, zE, zF]
     refine Rg.wpD_done (by kernel_rfl) ?_
     exact hKK _ gl_ gh_ gn_ _ _ _ _ _ _ _ _ _ _ _ _ _ (n_f1 LH BC.size D4 FA FB) (n_f2 BC)
    ·(try simp only [zA, zB, zC])
     go_simp
     have B := n_b w3 M2 S2
     have D3 := n_d3 D2
     have BC := Below.over BC BC.size B
     have FB := FB.below B
     refine Rg.st hK trivial fun hS inv => ?_
     clear hK K' B
     generalize w3.alloc (.cells #[.bool M2.s, .slice M2.a M2.n M2.c, .slice M2.b M2.m M2.d, .bool S2.s, .slice S2.a S2.n S2.c, .slice S2.b S2.m S2.d] 76) = w4 at *
     generalize w3.heap.size = g3_ at *
     refine Rg.w2 2 9 rfl rfl inv (fun K' hK => ?_) fun K' hK => ?_
     ·(try simp only [zA, zB, zC])
      refine wp_make_full _ _ 92 rfl w.heap.size 101 i2 _ 7 Try.underlying92 hi2 hz20 hz21 .i64 .i64 _ _ N (by rfl) (by rfl) rfl rfl (by rw [hz22]; omega) (by unfold maxLen; omega) BC.size ?_
      intro w5 ho hg
      have B := below_grown hg
      obtain ⟨gl_, hgl_⟩ : ∃ g, w4.heap.size = g := ⟨_, rfl⟩
      rw [hgl_] at ho
      have LH : gl_ ≠ gh_ := by have := FB.1.blk.lt; omega
      have BC := Below.over BC BC.size B
      have FB := FB.below B
      have D3 := And.intro (VB.later D3.1 B D3.1.lt) (And.intro (RAt.below D3.2.1 B) (RAt.below D3.2.2 B))
      have FA : FreshB w.heap.size w5 N gl_ := bnd_made ho
      rw [hgl_]
      clear ho hg
      refine Rg.st hK trivial fun hS inv => ?_
      clear hK K' B
      refine Rg.w1 9 rfl inv fun K' hK => ?_
      (try simp only [zA, zB, zC])
      go_simp
      go_at_call 43
      refine (repV_any D3.1 (by omega)).mono ?_
      rintro e w6 ⟨gn_, rfl, LA, GN, B⟩
      have D4 := n_d4 LA D3 B BC.size GN
      have BC := Below.over BC BC.size B
      have FA := FA.below B
      have FB := FB.below B
      refine Rg.st hK trivial fun hS inv => ?_
      clear hK K' B
      refine Rg.y1 10 rfl inv hS fun inv => ?_
      refine Rg.wt 11 rfl fun K' hK => ?_
      (try simp only [zA, zB, zC])
      go_simp
      refine hK.out _ _ ?_
      clear hK K'
      try simp only [Act.put, zA, zB, zC, zD, zE, zF]
      refine Rg.wt 12 rfl fun K' hK => ?_
      (try simp only [zA, zB, zC])
      go_simp
      refine hK.out _ _ ?_
      clear hK K'
      try simp only [Act.put, zA, zB, zC, zD, zE, zF]
      refine Rg.wpD_done (by kernel_rfl) ?_
      exact hKK _ gl_ gh_ gn_ _ _ _ _ _ _ _ _ _ _ _ _ _ (n_f1 LH BC.size D4 FA FB) (n_f2 BC)
     ·(try simp only [zA, zB, zC])
      go_simp
      go_at_call 43
      refine (repV_any D3.1 (by omega)).mono ?_
      rintro e w5 ⟨gn_, rfl, LA, GN, B⟩
      have D4 := n_d4 LA D3 B BC.size GN
      have BC := Below.over BC BC.size B
      have FB := FB.below B
      refine Rg.st hK trivial fun hS inv => ?_
      clear hK K' B
      refine Rg.w1 2 rfl inv fun K' hK => ?_
      (try simp only [zA, zB, zC])
      refine wp_make_full _ _ 92 rfl w.heap.size 101 i2 _ 7 Try.underlying92 hi2 hz20 hz21 .i64 .i64 _ _ N (by rfl) (by rfl) rfl rfl (by rw [hz22]; omega) (by unfold maxLen; omega) BC.size ?_
      intro w6 ho hg
      have B := below_grown hg
      obtain ⟨gl_, hgl_⟩ : ∃ g, w5.heap.size = g := ⟨_, rfl⟩
      rw [hgl_] at ho
      have LH : gl_ ≠ gh_ := by have := FB.1.blk.lt; omega
      have BC := Below.over BC BC.size B
      have FB := FB.below B
      have D4 := And.intro (Laid.later D4.1 B D4.1.blk.lt) (And.intro (RAt.below D4.2.1 B) (And.intro (RAt.below D4.2.2.1 B) D4.2.2.2))
      have FA : FreshB w.heap.size w6 N gl_ := bnd_made ho
      rw [hgl_]
      clear ho hg
      refine Rg.st hK trivial fun hS inv => ?_
      clear hK K' B
      refine Rg.y1 10 rfl inv hS fun inv => ?_
      refine Rg.wt 11 rfl fun K' hK => ?_
      (try simp only [zA, zB, zC])
      go_simp
      refine hK.out _ _ ?_
      clear hK K'
      try simp only [Act.put, zA, zB, zC, zD, zE, zF]
      refine Rg.wt 12 rfl fun K' hK => ?_
      (try simp only [zA, zB, zC])
      go_simp
      refine hK.out _ _ ?_
      clear hK K'
      try simp only [Act.put, zA, zB, zC, zD, zE, zF]
      refine Rg.wpD_done (by kernel_rfl) ?_
      exact hKK _ gl_ gh_ gn_ _ _ _ _ _ _ _ _ _ _ _ _ _ (n_f1 LH BC.size D4 FA FB) (n_f2 BC)
  ·(try simp only [zA, zB, zC])
   go_simp
   go_at_call 44
   refine (vplain_any (M := ⟨s1, a1, n1, c1, b1, m1, d1⟩) D1).mono ?_
   rintro e w2 ⟨M2, S2, rfl, D21, D22, B⟩
   have D2 := And.intro D21 D22
   have BC := Below.over BC BC.size B
   refine Rg.st hK trivial fun hS inv => ?_
   clear hK K' B
   refine Rg.wpD_three (k := 2) (l := 4) (m := 7) (by kernel_rfl) rfl rfl rfl (by decide) (by decide) (by decide) inv (by rfl) (by rfl) (by rfl) (fun K' hK => ?_) (fun K' hK => ?_) (fun K' hK => ?_)
   ·(try simp only [zA, zB, zC])
    refine wp_make_full _ _ 92 rfl w.heap.size 101 i2 _ 7 Try.underlying92 hi2 hz20 hz21 .i64 .i64 _ _ N (by rfl) (by rfl) rfl rfl (by rw [hz22]; omega) (by unfold maxLen; omega) BC.size ?_
    intro w3 ho hg
    have B := below_grown hg
    obtain ⟨gl_, hgl_⟩ : ∃ g, w2.heap.size = g := ⟨_, rfl⟩
    rw [hgl_] at ho
    have BC := Below.over BC BC.size B
    have D2 := And.intro (RAt.below D2.1 B) (RAt.below D2.2 B)
    have FA : FreshB w.heap.size w3 N gl_ := bnd_made ho
    rw [hgl_]
    clear ho hg
    refine Rg.st hK trivial fun hS inv => ?_
    clear hK K' B
    refine Rg.w2 4 7 rfl rfl inv (fun K' hK => ?_) fun K' hK => ?_
    ·(try simp only [zA, zB, zC])
     refine wp_make_full _ _ 92 rfl w.heap.size 101 i2 _ 7 Try.underlying92 hi2 hz20 hz21 .i64 .i64 _ _ N (by rfl) (by rfl) rfl rfl (by rw [hz22]; omega) (by unfold maxLen; omega) BC.size ?_
     intro w4 ho hg
     have B := below_grown hg
     obtain ⟨gh_, hgh_⟩ : ∃ g, w3.heap.size = g := ⟨_, rfl⟩
     rw [hgh_] at ho
     have LH : gl_ ≠ gh_ := by have := FA.1.blk.lt; omega
     have BC := Below.over BC BC.size B
     have FA := FA.below B
     have D2 := And.intro (RAt.below D2.1 B) (RAt.below D2.2 B)
     have FB : FreshB w.heap.size w4 N gh_ := bnd_made ho
     rw [hgh_]
     clear ho hg
     refine Rg.st hK trivial fun hS inv => ?_
     clear hK K' B
     refine Rg.w1 7 rfl inv fun K' hK => ?_
     (try simp only [zA, zB, zC])
     go_simp
     have B := n_b w4 M2 S2
     have D3 := n_d3 D2
     have BC := Below.over BC BC.size B
     have FA := FA.below B
     have FB := FB.below B
     refine Rg.st hK trivial fun hS inv => ?_
     clear hK K' B
     generalize w4.alloc (.cells #[.bool M2.s, .slice M2.a M2.n M2.c, .slice M2.b M2.m M2.d, .bool S2.s, .slice S2.a S2.n S2.c, .slice S2.b S2.m S2.d] 76) = w5 at *
     generalize w4.heap.size = g3_ at *
     refine Rg.w1 9 rfl inv fun K' hK => ?_
     (try simp only [zA, zB, zC])
     go_simp
     go_at_call 43
     refine (repV_any D3.1 (by omega)).mono ?_
     rintro e w6 ⟨gn_, rfl, LA, GN, B⟩
     have D4 := n_d4 LA D3 B BC.size GN
     have BC := Below.over BC BC.size B
     have FA := FA.below B
     have FB := FB.below B
     refine Rg.st hK trivial fun hS inv => ?_
     clear hK K' B
     refine Rg.y1 10 rfl inv hS fun inv => ?_
     refine Rg.wt 11 rfl fun K' hK => ?_
     (try simp only [zA, zB, zC])
     go_simp
     refine hK.out _ _ ?_
     clear hK K'
     try simp only [Act.put, zA, zB, zC, zD, zE, zF]
     refine Rg.wt 12 rfl fun K' hK => ?_
     (try simp only [zA, zB, zC])
     go_simp
     refine hK.out _ _ ?_
     clear hK K'
     try simp only [Act.put, zA, zB, zC, zD, zE, zF]
     refine Rg.wpD_done (by kernel_rfl) ?_
     exact hKK _ gl_ gh_ gn_ _ _ _ _ _ _ _ _ _ _ _ _ _ (n_f1 LH BC.size D4 FA FB) (n_f2 BC)
    ·(try simp only [zA, zB, zC])
     go_simp
     have B := n_b w3 M2 S2
     have D3 := n_d3 D2
     have BC := Below.over BC BC.size B
     have FA := FA.below B
     refine Rg.st hK trivial fun hS inv => ?_
     clear hK K' B
     generalize w3.alloc (.cells #[.bool M2.s, .slice M2.a M2.n M2.c, .slice M2.b M2.m M2.d, .bool S2.s, .slice S2.a S2.n S2.c, .slice S2.b S2.m S2.d] 76) = w4 at *
     generalize w3.heap.size = g3_ at *
     refine Rg.w2 4 9 rfl rfl inv (fun K' hK => ?_) fun K' hK => ?_
     ·(try simp only [zA, zB, zC])
      refine wp_make_full _ _ 92 rfl w.heap.size 101 i2 _ 7 Try.underlying92 hi2 hz20 hz21 .i64 .i64 _ _ N (by rfl) (by rfl) rfl rfl (by rw [hz22]; omega) (by unfold maxLen; omega) BC.size ?_
      intro w5 ho hg
      have B := below_grown hg
      obtain ⟨gh_, hgh_⟩ : ∃ g, w4.heap.size = g := ⟨_, rfl⟩
      rw [hgh_] at ho
      have LH : gl_ ≠ gh_ := by have := FA.1.blk.lt; omega
      have BC := Below.over BC BC.size B
      have FA := FA.below B
      have D3 := And.intro (VB.later D3.1 B D3.1.lt) (And.intro (RAt.below D3.2.1 B) (RAt.below D3.2.2 B))
      have FB : FreshB w.heap.size w5 N gh_ := bnd_made ho
      rw [hgh_]
      clear ho hg
      refine Rg.st hK trivial fun hS inv => ?_
      clear hK K' B
      refine Rg.w1 9 rfl inv fun K' hK => ?_
      (try simp only [zA, zB, zC])
      go_simp
      go_at_call 43
      refine (repV_any D3.1 (by omega)).mono ?_
      rintro e w6 ⟨gn_, rfl, LA, GN, B⟩
      have D4 := n_d4 LA D3 B BC.size GN
      have BC := Below.over BC BC.size B
      have FA := FA.below B
      have FB := FB.below B
      refine Rg.st hK trivial fun hS inv => ?_
      clear hK K' B
      refine Rg.y1 10 rfl inv hS fun inv => ?_
      refine Rg.wt 11 rfl fun K' hK => ?_
      (try simp only [zA, zB, zC])
      go_simp
      refine hK.out _ _ ?_
      clear hK K'
      try simp only [Act.put, zA, zB, zC, zD, zE, zF]
      refine Rg.wt 12 rfl fun K' hK => ?_
      (try simp only [zA, zB, zC])
      go_simp
      refine hK.out _ _ ?_
      clear hK K'
      try simp only [Act.put, zA, zB, zC, zD, zE, zF]
      refine Rg.wpD_done (by kernel_rfl) ?_
      exact hKK _ gl_ gh_ gn_ _ _ _ _ _ _ _ _ _ _ _ _ _ (n_f1 LH BC.size D4 FA FB) (n_f2 BC)
     ·(try simp only [zA, zB, zC])
      go_simp
      go_at_call 43
      refine (repV_any D3.1 (by omega)).mono ?_
      rintro e w5 ⟨gn_, rfl, LA, GN, B⟩
      have D4 := n_d4 LA D3 B BC.size GN
      have BC := Below.over BC BC.size B
      have FA := FA.below B
      refine Rg.st hK trivial fun hS inv => ?_
      clear hK K' B
      refine Rg.w1 4 rfl inv fun K' hK => ?_
      (try simp only [zA, zB, zC])
      refine wp_make_full _ _ 92 rfl w.heap.size 101 i2 _ 7 Try.underlying92 hi2 hz20 hz21 .i64 .i64 _ _ N (by rfl) (by rfl) rfl rfl (by rw [hz22]; omega) (by unfold maxLen; omega) BC.size ?_
      intro w6 ho hg
      have B := below_grown hg
      obtain ⟨gh_, hgh_⟩ : ∃ g, w5.heap.size = g := ⟨_, rfl⟩
      rw [hgh_] at ho
      have LH : gl_ ≠ gh_ := by have := FA.1.blk.lt; omega
      have BC := Below.over BC BC.size B
      have FA := FA.below B
      have D4 := And.intro (Laid.later D4.1 B D4.1.blk.lt) (And.intro (RAt.below D4.2.1 B) (And.intro (RAt.below D4.2.2.1 B) D4.2.2.2))
      have FB : FreshB w.heap.size w6 N gh_ := bnd_made ho
      rw [hgh_]
      clear ho hg
      refine Rg.st hK trivial fun hS inv => ?_
      clear hK K' B
      refine Rg.y1 10 rfl inv hS fun inv => ?_
      refine Rg.wt 11 rfl fun K' hK => ?_
      (try simp only [zA, zB, zC])
      go_simp
      refine hK.out _ _ ?_
      clear hK K'
      try simp only [Act.put, zA, zB, zC, zD, zE, zF]
      refine Rg.wt 12 rfl fun K' hK => ?_
      (try simp only [zA, zB, zC])
      go_simp
      refine hK.out _ _ ?_
      clear hK K'
      try simp only [Act.put, zA, zB, zC, zD, zE, zF]
      refine Rg.wpD_done (by kernel_rfl) ?_
      exact hKK _ gl_ gh_ gn_ _ _ _ _ _ _ _ _ _ _ _ _ _ (n_f1 LH BC.size D4 FA FB) (n_f2 BC)
   ·(try simp only [zA, zB, zC])
    refine wp_make_full _ _ 92 rfl w.heap.size 101 i2 _ 7 Try.underlying92 hi2 hz20 hz21 .i64 .i64 _ _ N (by rfl) (by rfl) rfl rfl (by rw [hz22]; omega) (by unfold maxLen; omega) BC.size ?_
    intro w3 ho hg
    have B := below_grown hg
    obtain ⟨gh_, hgh_⟩ : ∃ g, w2.heap.size = g := ⟨_, rfl⟩
    rw [hgh_] at ho
    have BC := Below.over BC BC.size B
    have D2 := And.intro (RAt.below D2.1 B) (RAt.below D2.2 B)
    have FB : FreshB w.heap.size w3 N gh_ := bnd_made ho
    rw [hgh_]
    clear ho hg
    refine Rg.st hK trivial fun hS inv => ?_
    clear hK K' B
    refine Rg.w2 2 7 rfl rfl inv (fun K' hK => ?_) fun K' hK => ?_
    ·(try simp only [zA, zB, zC])
     refine wp_make_full _ _ 92 rfl w.heap.size 101 i2 _ 7 Try.underlying92 hi2 hz20 hz21 .i64 .i64 _ _ N (by rfl) (by rfl) rfl rfl (by rw [hz22]; omega) (by unfold maxLen; omega) BC.size ?_
     intro w4 ho hg
     have B := below_grown hg
     obtain ⟨gl_, hgl_⟩ : ∃ g, w3.heap.size = g := ⟨_, rfl⟩
     rw [hgl_] at ho
     have LH : gl_ ≠ gh_ := by have := FB.1.blk.lt; omega
     have BC := Below.over BC BC.size B
     have FB := FB.below B
     have D2 := And.intro (RAt.below D2.1 B) (RAt.below D2.2 B)
     have FA : FreshB w.heap.size w4 N gl_ := bnd_made ho
     rw [hgl_]
     clear ho hg
     refine Rg.st hK trivial fun hS inv => ?_
     clear hK K' B
     refine Rg.w1 7 rfl inv fun K' hK => ?_
     (try simp only [zA, zB, zC])
     go_simp
     have B := n_b w4 M2 S2
     have D3 := n_d3 D2
     have BC := Below.over BC BC.size B
     have FA := FA.below B
     have FB := FB.below B
     refine Rg.st hK trivial fun hS inv => ?_
     clear hK K' B
     generalize w4.alloc (.cells #[.bool M2.s, .slice M2.a M2.n M2.c, .slice M2.b M2.m M2.d, .bool S2.s, .slice S2.a S2.n S2.c, .slice S2.b S2.m S2.d] 76) = w5 at *
     generalize w4.heap.size = g3_ at *
     refine Rg.w1 9 rfl inv fun K' hK => ?_
     (try simp only [zA, zB, zC])
     go_simp
     go_at_call 43
     refine (repV_any D3.1 (by omega)).mono ?_
     rintro e w6 ⟨gn_, rfl, LA, GN, B⟩
     have D4 := n_d4 LA D3 B BC.size GN
     have BC := Below.over BC BC.size B
     have FA := FA.below B
     have FB := FB.below B
     refine Rg.st hK trivial fun hS inv => ?_
     clear hK K' B
     refine Rg.y1 10 rfl inv hS fun inv => ?_
     refine Rg.wt 11 rfl fun K' hK => ?_
     (try simp only [zA, zB, zC])
     go_simp
     refine hK.out _ _ ?_
     clear hK K'
     try simp only [Act.put, zA, zB, zC, zD, zE, zF]
     refine Rg.wt 12 rfl fun K' hK => ?_
     (try simp only [zA, zB, zC])
     go_simp
     refine hK.out _ _ ?_
     clear hK K'
     try simp only [Act.put, zA, zB, zC, zD, zE, zF]
     refine Rg.wpD_done (by kernel_rfl) ?_
     exact hKK _ gl_ gh_ gn_ _ _ _ _ _ _ _ _ _ _ _ _ _ (n_f1 LH BC.size D4 FA FB) (n_f2 BC)
    ·(try simp only [zA, zB, zC])
     go_simp
     have B := n_b w3 M2 S2
     have D3 := n_d3 D2
     have BC := Below.over BC BC.size B
     have FB := FB.below B
     refine Rg.st hK trivial fun hS inv => ?_
     clear hK K' B
     generalize w3.alloc (.cells #[.bool M2.s, .slice M2.a M2.n M2.c, .slice M2.b M2.m M2.d, .bool S2.s, .slice S2.a S2.n S2.c, .slice S2.b S2.m S2.d] 76) = w4 at *
     generalize w3.heap.size = g3_ at *
     refine Rg.w2 2 9 rfl rfl inv (fun K' hK => ?_) fun K' hK => ?_
     ·(try simp only [zA, zB, zC])
      refine wp_make_full _ _ 92 rfl w.heap.size 101 i2 _ 7 Try.underlying92 hi2 hz20 hz21 .i64 .i64 _ _ N (by rfl) (by rfl) rfl rfl (by rw [hz22]; omega) (by unfold maxLen; omega) BC.size ?_
      intro w5 ho hg
      have B := below_grown hg
      obtain ⟨gl_, hgl_⟩ : ∃ g, w4.heap.size = g := ⟨_, rfl⟩
      rw [hgl_] at ho
      have LH : gl_ ≠ gh_ := by have := FB.1.blk.lt; omega
      have BC := Below.over BC BC.size B
      have FB := FB.below B
      have D3 := And.intro (VB.later D3.1 B D3.1.lt) (And.intro (RAt.below D3.2.1 B) (RAt.below D3.2.2 B))
      have FA : FreshB w.heap.size w5 N gl_ := bnd_made ho
      rw [hgl_]
      clear ho hg
      refine Rg.st hK trivial fun hS inv => ?_
      clear hK K' B
      refine Rg.w1 9 rfl inv fun K' hK => ?_
      (try simp only [zA, zB, zC])
      go_simp
      go_at_call 43
      refine (repV_any D3.1 (by omega)).mono ?_
      rintro e w6 ⟨gn_, rfl, LA, GN, B⟩
      have D4 := n_d4 LA D3 B BC.size GN
      have BC := Below.over BC BC.size B
      have FA := FA.below B
      have FB := FB.below B
      refine Rg.st hK trivial fun hS inv => ?_
      clear hK K' B
      refine Rg.y1 10 rfl inv hS fun inv => ?_
      refine Rg.wt 11 rfl fun K' hK => ?_
      (try simp only [zA, zB, zC])
      go_simp
      refine hK.out _ _ ?_
      clear hK K'
      try simp only [Act.put, zA, zB, zC, zD, zE, zF]
      refine Rg.wt 12 rfl fun K' hK => ?_
      (try simp only [zA, zB, zC])
      go_simp
      refine hK.out _ _ ?_
      clear hK K'
      try simp only [Act.put, zA, zB, zC, zD, zE, zF]
      refine Rg.wpD_done (by kernel_rfl) ?_
      exact hKK _ gl_ gh_ gn_ _ _ _ _ _ _ _ _ _ _ _ _ _ (n_f1 LH BC.size D4 FA FB) (n_f2 BC)
     ·(try simp only [zA, zB, zC])
      go_simp
      go_at_call 43
      refine (repV_any D3.1 (by omega)).mono ?_
      rintro e w5 ⟨gn_, rfl, LA, GN, B⟩
      have D4 := n_d4 LA D3 B BC.size GN
      have BC := Below.over BC BC.size B
      have FB := FB.below B
      refine Rg.st hK trivial fun hS inv => ?_
      clear hK K' B
      refine Rg.w1 2 rfl inv fun K' hK => ?_
      (try simp only [zA, zB, zC])
      refine wp_make_full _ _ 92 rfl w.heap.size 101 i2 _ 7 Try.underlying92 hi2 hz20 hz21 .i64 .i64 _ _ N (by rfl) (by rfl) rfl rfl (by rw [hz22]; omega) (by unfold maxLen; omega) BC.size ?_
      intro w6 ho hg
      have B := below_grown hg
      obtain ⟨gl_, hgl_⟩ : ∃ g, w5.heap.size = g := ⟨_, rfl⟩
      rw [hgl_] at ho
      have LH : gl_ ≠ gh_ := by have := FB.1.blk.lt; omega
      have BC := Below.over BC BC.size B
      have FB := FB.below B
      have D4 := And.intro (Laid.later D4.1 B D4.1.blk.lt) (And.intro (RAt.below D4.2.1 B) (And.intro (RAt.below D4.2.2.1 B) D4.2.2.2))
      have FA : FreshB w.heap.size w6 N gl_ := bnd_made ho
      rw [hgl_]
      clear ho hg
      refine Rg.st hK trivial fun hS inv => ?_
      clear hK K' B
      refine Rg.y1 10 rfl inv hS fun inv => ?_
      refine Rg.wt 11 rfl fun K' hK => ?_
      (try simp only [zA, zB, zC])
      go_simp
      refine hK.out _ _ ?_
      clear hK K'
      try simp only [Act.put, zA, zB, zC, zD, zE, zF]
      refine Rg.wt 12 rfl fun K' hK => ?_
      (try simp only [zA, zB, zC])
      go_simp
      refine hK.out _ _ ?_
      clear hK K'
      try simp only [Act.put, zA, zB, zC, zD, zE, zF]
      refine Rg.wpD_done (by kernel_rfl) ?_
      exact hKK _ gl_ gh_ gn_ _ _ _ _ _ _ _ _ _ _ _ _ _ (n_f1 LH BC.size D4 FA FB) (n_f2 BC)
   ·(try simp only [zA, zB, zC])
    go_simp
    have B := n_b w2 M2 S2
    have D3 := n_d3 D2
    have BC := Below.over BC BC.size B
    refine Rg.st hK trivial fun hS inv => ?_
    clear hK K' B
    generalize w2.alloc (.cells #[.bool M2.s, .slice M2.a M2.n M2.c, .slice M2.b M2.m M2.d, .bool S2.s, .slice S2.a S2.n S2.c, .slice S2.b S2.m S2.d] 76) = w3 at *
    generalize w2.heap.size = g3_ at *
    refine Rg.wpD_three (k := 2) (l := 4) (m := 9) (by kernel_rfl) rfl rfl rfl (by decide) (by decide) (by decide) inv (by rfl) (by rfl) (by rfl) (fun K' hK => ?_) (fun K' hK => ?_) (fun K' hK => ?_)
    ·(try simp only [zA, zB, zC])
     refine wp_make_full _ _ 92 rfl w.heap.size 101 i2 _ 7 Try.underlying92 hi2 hz20 hz21 .i64 .i64 _ _ N (by rfl) (by rfl) rfl rfl (by rw [hz22]; omega) (by unfold maxLen; omega) BC.size ?_
     intro w4 ho hg
     have B := below_grown hg
     obtain ⟨gl_, hgl_⟩ : ∃ g, w3.heap.size = g := ⟨_, rfl⟩
     rw [hgl_] at ho
     have BC := Below.over BC BC.size B
     have D3 := And.intro (VB.later D3.1 B D3.1.lt) (And.intro (RAt.below D3.2.1 B) (RAt.below D3.2.2 B))
     have FA : FreshB w.heap.size w4 N gl_ := bnd_made ho
     rw [hgl_]
     clear ho hg
     refine Rg.st hK trivial fun hS inv => ?_
     clear hK K' B
     refine Rg.w2 4 9 rfl rfl inv (fun K' hK => ?_) fun K' hK => ?_
     ·(try simp only [zA, zB, zC])
      refine wp_make_full _ _ 92 rfl w.heap.size 101 i2 _ 7 Try.underlying92 hi2 hz20 hz21 .i64 .i64 _ _ N (by rfl) (by rfl) rfl rfl (by rw [hz22]; omega) (by unfold maxLen; omega) BC.size ?_
      intro w5 ho hg
      have B := below_grown hg
      obtain ⟨gh_, hgh_⟩ : ∃ g, w4.heap.size = g := ⟨_, rfl⟩
      rw [hgh_] at ho
      have LH : gl_ ≠ gh_ := by have := FA.1.blk.lt; omega
      have BC := Below.over BC BC.size B
      have FA := FA.below B
      have D3 := And.intro (VB.later D3.1 B D3.1.lt) (And.intro (RAt.below D3.2.1 B) (RAt.below D3.2.2 B))
      have FB : FreshB w.heap.size w5 N gh_ := bnd_made ho
      rw [hgh_]
      clear ho hg
      refine Rg.st hK trivial fun hS inv => ?_
      clear hK K' B
      refine Rg.w1 9 rfl inv fun K' hK => ?_
      (try simp only [zA, zB, zC])
      go_simp
      go_at_call 43
      refine (repV_any D3.1 (by omega)).mono ?_
      rintro e w6 ⟨gn_, rfl, LA, GN, B⟩
      have D4 := n_d4 LA D3 B BC.size GN
      have BC := Below.over BC BC.size B
      have FA := FA.below B
      have FB := FB.below B
      refine Rg.st hK trivial fun hS inv => ?_
      clear hK K' B
      refine Rg.y1 10 rfl inv hS fun inv => ?_
      refine Rg.wt 11 rfl fun K' hK => ?_
      (try simp only [zA, zB, zC])
      go_simp
      refine hK.out _ _ ?_
      clear hK K'
      try simp only [Act.put, zA, zB, zC, zD, zE, zF]
      refine Rg.wt 12 rfl fun K' hK => ?_
      (try simp only [zA, zB, zC])
      go_simp
      refine hK.out _ _ ?_
      clear hK K'
      try simp only [Act.put, zA, zB, zC, zD, zE, zF]
      refine Rg.wpD_done (by kernel_rfl) ?_
      exact hKK _ gl_ gh_ gn_ _ _ _ _ _ _ _ _ _ _ _ _ _ (n_f1 LH BC.size D4 FA FB) (n_f2 BC)
     ·(try simp only [zA, zB, zC])
      go_simp
      go_at_call 43
      refine (repV_any D3.1 (by omega)).mono ?_
      rintro e w5 ⟨gn_, rfl, LA, GN, B⟩
      have D4 := n_d4 LA D3 B BC.size GN
      have BC := Below.over BC BC.size B
      have FA := FA.below B
      refine Rg.st hK trivial fun hS inv => ?_
      clear hK K' B
      refine Rg.w1 4 rfl inv fun K' hK => ?_
      (try simp only [zA, zB, zC])
      refine wp_make_full _ _ 92 rfl w.heap.size 101 i2 _ 7 Try.underlying92 hi2 hz20 hz21 .i64 .i64 _ _ N (by rfl) (by rfl) rfl rfl (by rw [hz22]; omega) (by unfold maxLen; omega) BC.size ?_
      intro w6 ho hg
      have B := below_grown hg
      obtain ⟨gh_, hgh_⟩ : ∃ g, w5.heap.size = g := ⟨_, rfl⟩
      rw [hgh_] at ho
      have LH : gl_ ≠ gh_ := by have := FA.1.blk.lt; omega
      have BC := Below.over BC BC.size B
      have FA := FA.below B
      have D4 := And.intro (Laid.later D4.1 B D4.1.blk.lt) (And.intro (RAt.below D4.2.1 B) (And.intro (RAt.below D4.2.2.1 B) D4.2.2.2))
      have FB : FreshB w.heap.size w6 N gh_ := bnd_made ho
      rw [hgh_]
      clear ho hg
      refine Rg.st hK trivial fun hS inv => ?_
      clear hK K' B
      refine Rg.y1 10 rfl inv hS fun inv => ?_
      refine Rg.wt 11 rfl fun K' hK => ?_
      (try simp only [zA, zB, zC])
      go_simp
      refine hK.out _ _ ?_
      clear hK K'
      try simp only [Act.put, zA, zB, zC, zD, zE, zF]
      refine Rg.wt 12 rfl fun K' hK => ?_
      (try simp only [zA, zB, zC])
      go_simp
      refine hK.out _ _ ?_
      clear hK K'
      try simp only [Act.put, zA, zB, zC, zD, zE, zF]
      refine Rg.wpD_done (by kernel_rfl) ?_
      exact hKK _ gl_ gh_ gn_ _ _ _ _ _ _ _ _ _ _ _ _ _ (n_f1 LH BC.size D4 FA FB) (n_f2 BC)
    ·(try simp only [zA, zB, zC])
     refine wp_make_full _ _ 92 rfl w.heap.size 101 i2 _ 7 Try.underlying92 hi2 hz20 hz21 .i64 .i64 _ _ N (by rfl) (by rfl) rfl rfl (by rw [hz22]; omega) (by unfold maxLen; omega) BC.size ?_
     intro w4 ho hg
     have B := below_grown hg
     obtain ⟨gh_, hgh_⟩ : ∃ g, w3.heap.size = g := ⟨_, rfl⟩
     rw [hgh_] at ho
     have BC := Below.over BC BC.size B
     have D3 := And.intro (VB.later D3.1 B D3.1.lt) (And.intro (RAt.below D3.2.1 B) (RAt.below D3.2.2 B))
     have FB : FreshB w.heap.size w4 N gh_ := bnd_made ho
     rw [hgh_]
     clear ho hg
     refine Rg.st hK trivial fun hS inv => ?_
     clear hK K' B
     refine Rg.w2 2 9 rfl rfl inv (fun K' hK => ?_) fun K' hK => ?_
     ·(try simp only [zA, zB, zC])
      refine wp_make_full _ _ 92 rfl w.heap.size 101 i2 _ 7 Try.underlying92 hi2 hz20 hz21 .i64 .i64 _ _ N (by rfl) (by rfl) rfl rfl (by rw [hz22]; omega) (by unfold maxLen; omega) BC.size ?_
      intro w5 ho hg
      have B := below_grown hg
      obtain ⟨gl_, hgl_⟩ : ∃ g, w4.heap.size = g := ⟨_, rfl⟩
      rw [hgl_] at ho
      have LH : gl_ ≠ gh_ := by have := FB.1.blk.lt; omega
      have BC := Below.over BC BC.size B
      have FB := FB.below B
      have D3 := And.intro (VB.later D3.1 B D3.1.lt) (And.intro (RAt.below D3.2.1 B) (RAt.below D3.2.2 B))
      have FA : FreshB w.heap.size w5 N gl_ := bnd_made ho
      rw [hgl_]
      clear ho hg
      refine Rg.st hK trivial fun hS inv => ?_
      clear hK K' B
      refine Rg.w1 9 rfl inv fun K' hK => ?_
      (try simp only [zA, zB, zC])
      go_simp
      go_at_call 43
      refine (repV_any D3.1 (by omega)).mono ?_
      rintro e w6 ⟨gn_, rfl, LA, GN, B⟩
      have D4 := n_d4 LA D3 B BC.size GN
      have BC := Below.over BC BC.size B
      have FA := FA.below B
      have FB := FB.below B
      refine Rg.st hK trivial fun hS inv => ?_
      clear hK K' B
      refine Rg.y1 10 rfl inv hS fun inv => ?_
      refine Rg.wt 11 rfl fun K' hK => ?_
      (try simp only [zA, zB, zC])
      go_simp
      refine hK.out _ _ ?_
      clear hK K'
      try simp only [Act.put, zA, zB, zC, zD, zE, zF]
      refine Rg.wt 12 rfl fun K' hK => ?_
      (try simp only [zA, zB, zC])
      go_simp
      refine hK.out _ _ ?_
      clear hK K'
      try simp only [Act.put, zA, zB, zC, zD, zE, zF]
      refine Rg.wpD_done (by kernel_rfl) ?_
      exact hKK _ gl_ gh_ gn_ _ _ _ _ _ _ _ _ _ _ _ _ _ (n_f1 LH BC.size D4 FA FB) (n_f2 BC)
     ·(try simp only [zA, zB, zC])
      go_simp
      go_at_call 43
      refine (repV_any D3.1 (by omega)).mono ?_
      rintro e w5 ⟨gn_, rfl, LA, GN, B⟩
      have D4 := n_d4 LA D3 B BC.size GN
      have BC := Below.over BC BC.size B
      have FB := FB.below B
      refine Rg.st hK trivial fun hS inv => ?_
      clear hK K' B
      refine Rg.w1 2 rfl inv fun K' hK => ?_
      (try simp only [zA, zB, zC])
      refine wp_make_full _ _ 92 rfl w.heap.size 101 i2 _ 7 Try.underlying92 hi2 hz20 hz21 .i64 .i64 _ _ N (by rfl) (by rfl) rfl rfl (by rw [hz22]; omega) (by unfold maxLen; omega) BC.size ?_
      intro w6 ho hg
      have B := below_grown hg
      obtain ⟨gl_, hgl_⟩ : ∃ g, w5.heap.size = g := ⟨_, rfl⟩
      rw [hgl_] at ho
      have LH : gl_ ≠ gh_ := by have := FB.1.blk.lt; omega
      have BC := Below.over BC BC.size B
      have FB := FB.below B
      have D4 := And.intro (Laid.later D4.1 B D4.1.blk.lt) (And.intro (RAt.below D4.2.1 B) (And.intro (RAt.below D4.2.2.1 B) D4.2.2.2))
      have FA : FreshB w.heap.size w6 N gl_ := bnd_made ho
      rw [hgl_]
      clear ho hg
      refine Rg.st hK trivial fun hS inv => ?_
      clear hK K' B
      refine Rg.y1 10 rfl inv hS fun inv => ?_
      refine Rg.wt 11 rfl fun K' hK => ?_
      (try simp only [zA, zB, zC])
      go_simp
      refine hK.out _ _ ?_
      clear hK K'
      try simp only [Act.put, zA, zB, zC, zD, zE, zF]
      refine Rg.wt 12 rfl fun K' hK => ?_
      (try simp only [zA, zB, zC])
      go_simp
      refine hK.out _ _ ?_
      clear hK K'
      try simp only [Act.put, zA, zB, zC, zD, zE, zF]
      refine Rg.wpD_done (by kernel_rfl) ?_
      exact hKK _ gl_ gh_ gn_ _ _ _ _ _ _ _ _ _ _ _ _ _ (n_f1 LH BC.size D4 FA FB) (n_f2 BC)
    ·(try simp only [zA, zB, zC])
     go_simp
     go_at_call 43
     refine (repV_any D3.1 (by omega)).mono ?_
     rintro e w4 ⟨gn_, rfl, LA, GN, B⟩
     have D4 := n_d4 LA D3 B BC.size GN
     have BC := Below.over BC BC.size B
     refine Rg.st hK trivial fun hS inv => ?_
     clear hK K' B
     refine Rg.w2 2 4 rfl rfl inv (fun K' hK => ?_) fun K' hK => ?_
     ·(try simp only [zA, zB, zC])
      refine wp_make_full _ _ 92 rfl w.heap.size 101 i2 _ 7 Try.underlying92 hi2 hz20 hz21 .i64 .i64 _ _ N (by rfl) (by rfl) rfl rfl (by rw [hz22]; omega) (by unfold maxLen; omega) BC.size ?_
      intro w5 ho hg
      have B := below_grown hg
      obtain ⟨gl_, hgl_⟩ : ∃ g, w4.heap.size = g := ⟨_, rfl⟩
      rw [hgl_] at ho
      have BC := Below.over BC BC.size B
      have D4 := And.intro (Laid.later D4.1 B D4.1.blk.lt) (And.intro (RAt.below D4.2.1 B) (And.intro (RAt.below D4.2.2.1 B) D4.2.2.2))
      have FA : FreshB w.heap.size w5 N gl_ := bnd_made ho
      rw [hgl_]
      clear ho hg
      refine Rg.st hK trivial fun hS inv => ?_
      clear hK K' B
      refine Rg.w1 4 rfl inv fun K' hK => ?_
      (try simp only [zA, zB, zC])
      refine wp_make_full _ _ 92 rfl w.heap.size 101 i2 _ 7 Try.underlying92 hi2 hz20 hz21 .i64 .i64 _ _ N (by rfl) (by rfl) rfl rfl (by rw [hz22]; omega) (by unfold maxLen; omega) BC.size ?_
      intro w6 ho hg
      have B := below_grown hg
      obtain ⟨gh_, hgh_⟩ : ∃ g, w5.heap.size = g := ⟨_, rfl⟩
      rw [hgh_] at ho
      have LH : gl_ ≠ gh_ := by have := FA.1.blk.lt; omega
      have BC := Below.over BC BC.size B
      have FA := FA.below B
      have D4 := And.intro (Laid.later D4.1 B D4.1.blk.lt) (And.intro (RAt.below D4.2.1 B) (And.intro (RAt.below D4.2.2.1 B) D4.2.2.2))
      have FB : FreshB w.heap.size w6 N gh_ := bnd_made ho
      rw [hgh_]
      clear ho hg
      refine Rg.st hK trivial fun hS inv => ?_
      clear hK K' B
      refine Rg.y1 10 rfl inv hS fun inv => ?_
      refine Rg.wt 11 rfl fun K' hK => ?_
      (try simp only [zA, zB, zC])
      go_simp
      refine hK.out _ _ ?_
      clear hK K'
      try simp only [Act.put, zA, zB, zC, zD, zE, zF]
      refine Rg.wt 12 rfl fun K' hK => ?_
      (try simp only [zA, zB, zC])
      go_simp
      refine hK.out _ _ ?_
      clear hK K'
      try simp only [Act.put, zA, zB, zC, zD, zE, zF]
      refine Rg.wpD_done (by kernel_rfl) ?_
      exact hKK _ gl_ gh_ gn_ _ _ _ _ _ _ _ _ _ _ _ _ _ (n_f1 LH BC.size D4 FA FB) (n_f2 BC)
     ·(try simp only [zA, zB, zC])
      refine wp_make_full _ _ 92 rfl w.heap.size 101 i2 _ 7 Try.underlying92 hi2 hz20 hz21 .i64 .i64 _ _ N (by rfl) (by rfl) rfl rfl (by rw [hz22]; omega) (by unfold maxLen; omega) BC.size ?_
      intro w5 ho hg
      have B := below_grown hg
      obtain ⟨gh_, hgh_⟩ : ∃ g, w4.heap.size = g := ⟨_, rfl⟩
      rw [hgh_] at ho
      have BC := Below.over BC BC.size B
      have D4 := And.intro (Laid.later D4.1 B D4.1.blk.lt) (And.intro (RAt.below D4.2.1 B) (And.intro (RAt.below D4.2.2.1 B) D4.2.2.2))
      have FB : FreshB w.heap.size w5 N gh_ := bnd_made ho
      rw [hgh_]
      clear ho hg
      refine Rg.st hK trivial fun hS inv => ?_
      clear hK K' B
      refine Rg.w1 2 rfl inv fun K' hK => ?_
      (try simp only [zA, zB, zC])
      refine wp_make_full _ _ 92 rfl w.heap.size 101 i2 _ 7 Try.underlying92 hi2 hz20 hz21 .i64 .i64 _ _ N (by rfl) (by rfl) rfl rfl (by rw [hz22]; omega) (by unfold maxLen; omega) BC.size ?_
      intro w6 ho hg
      have B := below_grown hg
      obtain ⟨gl_, hgl_⟩ : ∃ g, w5.heap.size = g := ⟨_, rfl⟩
      rw [hgl_] at ho
      have LH : gl_ ≠ gh_ := by have := FB.1.blk.lt; omega
      have BC := Below.over BC BC.size B
      have FB := FB.below B
      have D4 := And.intro (Laid.later D4.1 B D4.1.blk.lt) (And.intro (RAt.below D4.2.1 B) (And.intro (RAt.below D4.2.2.1 B) D4.2.2.2))
      have FA : FreshB w.heap.size w6 N gl_ := bnd_made ho
      rw [hgl_]
      clear ho hg
      refine Rg.st hK trivial fun hS inv => ?_
      clear hK K' B
      refine Rg.y1 10 rfl inv hS fun inv => ?_
      refine Rg.wt 11 rfl fun K' hK => ?_
      (try simp only [zA, zB, zC])
      go_simp
      refine hK.out _ _ ?_
      clear hK K'
      try simp only [Act.put, zA, zB, zC, zD, zE, zF]
      refine Rg.wt 12 rfl fun K' hK => ?_
      (try simp only [zA, zB, zC])
      go_simp
      refine hK.out _ _ ?_
      clear hK K'
      try simp only [Act.put, zA, zB, zC, zD, zE, zF]
      refine Rg.wpD_done (by kernel_rfl) ?_
      exact hKK _ gl_ gh_ gn_ _ _ _ _ _ _ _ _ _ _ _ _ _ (n_f1 LH BC.size D4 FA FB) (n_f2 BC)
end Go.Proofs.Ytijdglogadnbcaa
