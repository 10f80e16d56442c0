/- Regions of lp.New. Printed by genMe.py. -/
import Derived.Test.YtijdglogadnbcaaZ29
set_option linter.unusedVariables false
set_option linter.unusedSimpArgs false
set_option maxRecDepth 100000
set_option maxHeartbeats 40000000
namespace Go.Proofs.Ytijdglogadnbcaa
open Go.RowKit Nt Bl
theorem new_r24 {n0 b p : Nat} {W : World} {Z : PtL} (hP : Pt n0 W Z) (hp : Z.p = p) (hb : b < Z.N) {ga : Nat} {M S : Nw} {x : V} (X : VB W ga M S) (rm : RA W x.m M) (rs : RA W x.s S) (hn0 : n0 ≤ W.heap.size) (NB : Z.N ≤ 1000) {K : Act → World → Prop} {u0 u1 u2 u3 u4 u5 u6 u7 u9 u10 u11 u12 u13 u14 u15 u18 u19 u20 u21 u22 u23 u24 u25 u26 u27 u28 u29 u30 u31 u32 u33 u34 u35 u36 u37 u38 u39 u40 u41 u42 u43 u44 u45 u46 u47 u48 u49 u50 u51 u52 u53 u54 u55 u56 u57 u58 u59 u60 u61 u62 u63 u64 u65 u66 u67 u68 u69 u70 u71 u72 u73 u74 u75 u76 u77 u78 u79 u80 u81 u82 u83 u84 u85 u86 u87 u88 u89 u90 u91 u92 u93 u94 u95 u96 u97 u98 u99 u100 u101 u102 u103 u104 u105 u106 u107 u108 u109 u110 u111 u112 u113 u114 u115 u116 u117 u118 u119 u120 u121 u122 u123 u124 u125 u126 u127 u128 u129 u130 u131 u132 u133 u134 u135 u136 u137 u138 u139 u140 u141 u142 u143 u144 u145 u146 u147 u148 u149 u150 u151 u152 u153 u154 u155 u156 : Value}
  (hK : ∀ (x132 x133 x134 x135 x136 x137 x138 x139 : Value) (W' : World), Pt n0 W' { Z with hi := fun j => if j = b then some x else Z.hi j } → Below n0 W W' → (∀ b ty, Blk W b ty → ty ≠ 101 → W'.heap[b]? = W.heap[b]?) → K ⟨#[u0, u1, u2, u3, u4, u5, u6, u7, .pointer (some ⟨p, 0, none⟩), u9, u10, u11, u12, u13, u14, u15, .int .i64 (b : Int), .pointer (some ⟨ga, 0, none⟩), u18, u19, u20, u21, u22, u23, u24, u25, u26, u27, u28, u29, u30, u31, u32, u33, u34, u35, u36, u37, u38, u39, u40, u41, u42, u43, u44, u45, u46, u47, u48, u49, u50, u51, u52, u53, u54, u55, u56, u57, u58, u59, u60, u61, u62, u63, u64, u65, u66, u67, u68, u69, u70, u71, u72, u73, u74, u75, u76, u77, u78, u79, u80, u81, u82, u83, u84, u85, u86, u87, u88, u89, u90, u91, u92, u93, u94, u95, u96, u97, u98, u99, u100, u101, u102, u103, u104, u105, u106, u107, u108, u109, u110, u111, u112, u113, u114, u115, u116, u117, u118, u119, u120, u121, u122, u123, u124, u125, u126, u127, u128, u129, u130, u131, x132, x133, x134, x135, x136, x137, x138, x139, u140, u141, u142, u143, u144, u145, u146, u147, u148, u149, u150, u151, u152, u153, u154, u155, u156], []⟩ W') :
  (regC Try.f28 24).wp Try.prog (Only K) ⟨#[u0, u1, u2, u3, u4, u5, u6, u7, .pointer (some ⟨p, 0, none⟩), u9, u10, u11, u12, u13, u14, u15, .int .i64 (b : Int), .pointer (some ⟨ga, 0, none⟩), u18, u19, u20, u21, u22, u23, u24, u25, u26, u27, u28, u29, u30, u31, u32, u33, u34, u35, u36, u37, u38, u39, u40, u41, u42, u43, u44, u45, u46, u47, u48, u49, u50, u51, u52, u53, u54, u55, u56, u57, u58, u59, u60, u61, u62, u63, u64, u65, u66, u67, u68, u69, u70, u71, u72, u73, u74, u75, u76, u77, u78, u79, u80, u81, u82, u83, u84, u85, u86, u87, u88, u89, u90, u91, u92, u93, u94, u95, u96, u97, u98, u99, u100, u101, u102, u103, u104, u105, u106, u107, u108, u109, u110, u111, u112, u113, u114, u115, u116, u117, u118, u119, u120, u121, u122, u123, u124, u125, u126, u127, u128, u129, u130, u131, u132, u133, u134, u135, u136, u137, u138, u139, u140, u141, u142, u143, u144, u145, u146, u147, u148, u149, u150, u151, u152, u153, u154, u155, u156], []⟩ W := by
 subst hp
 rw [show regC Try.f28 24 = _ from by (simp only [regC, Try.f28, findC, Nat.reduceEqDiff, if_true, if_false, Option.getD]; rfl)]
 have hKK := hK
 clear hK
 have b0 : (0 : Int) ≤ (b : Int) := by omega
 have b1 : (b : Int) < (Z.N : Int) := by omega
 obtain ⟨_, q1, q2, _⟩ := hP.head
 obtain ⟨is, M', S', _, h0, h1, h2, h3, h4, h5, h6⟩ := (hP.hi.at_ b hb).r7
 have fz0 := hP.hi.blk.free (b * 7); have fz1 := hP.hi.blk.free (b * 7 + 1); have fz2 := hP.hi.blk.free (b * 7 + 2); have fz3 := hP.hi.blk.free (b * 7 + 3); have fz4 := hP.hi.blk.free (b * 7 + 4); have fz5 := hP.hi.blk.free (b * 7 + 5); have fz6 := hP.hi.blk.free (b * 7 + 6)
 obtain ⟨v0, v1, v2, v3, v4, v5, _⟩ := X.reads
 have PD := hP.drew; have XD : VB W.drew ga M S := X; have RMD : RA W.drew x.m M := RAt.below rm (Below.refl _ _).drew; have RSD : RA W.drew x.s S := RAt.below rs (Below.refl _ _).drew
 have BD : Below n0 W W.drew := (Below.refl _ _).drew
 have OD : ∀ b : Nat, W.drew.heap[b]? = W.heap[b]? := fun _ => rfl
 have LD : Limb W W.drew := Limb.of_below (Below.refl _ _).drew
 refine Rg.wpD_start 8 [] (fun W' => W'.cell? ⟨Z.p, 2, none⟩ = some (.slice (some ⟨Z.high, 0, none⟩) Z.N Z.N) ∧ W'.cell? ⟨ga, 0, none⟩ = some (.bool M.s) ∧ W'.cell? ⟨ga, 1, none⟩ = some (.slice M.a M.n M.c) ∧ W'.cell? ⟨ga, 2, none⟩ = some (.slice M.b M.m M.d) ∧ W'.cell? ⟨ga, 3, none⟩ = some (.bool S.s) ∧ W'.cell? ⟨ga, 4, none⟩ = some (.slice S.a S.n S.c) ∧ W'.cell? ⟨ga, 5, none⟩ = some (.slice S.b S.m S.d)) (by kernel_rfl) (by kernel_rfl) ?_ (fun hS ok inv => ?_)
 ·exact ⟨q2, v0, v1, v2, v3, v4, v5⟩
 refine Rg.tk 0 rfl ok inv hS fun inv => ?_
 refine Rg.tk 1 rfl ok inv hS fun inv => ?_
 refine Rg.tk 2 rfl ok inv hS fun inv => ?_
 refine Rg.tk 3 rfl ok inv hS fun inv => ?_
 refine Rg.tk 4 rfl ok inv hS fun inv => ?_
 refine Rg.tk 5 rfl ok inv hS fun inv => ?_
 refine Rg.tk 6 rfl ok inv hS fun inv => ?_
 refine Rg.tk 7 rfl ok inv hS fun inv => ?_
 generalize W.drew = c0 at *
 clear q1 q2 v0 v1 v2 v3 v4 v5 h0 h1 h2 h3 h4 h5 h6 fz0 fz1 fz2 fz3 fz4 fz5 fz6
 obtain ⟨_, q1, q2, _⟩ := PD.head
 obtain ⟨v0, v1, v2, v3, v4, v5, _⟩ := XD.reads
 obtain ⟨is, M', S', _, h0, h1, h2, h3, h4, h5, h6⟩ := (PD.hi.at_ b hb).r7
 have fz0 := PD.hi.blk.free (b * 7); have fz1 := PD.hi.blk.free (b * 7 + 1); have fz2 := PD.hi.blk.free (b * 7 + 2); have fz3 := PD.hi.blk.free (b * 7 + 3); have fz4 := PD.hi.blk.free (b * 7 + 4); have fz5 := PD.hi.blk.free (b * 7 + 5); have fz6 := PD.hi.blk.free (b * 7 + 6)
 have SF := setCells_frame (g := Z.high) (.bool true :: (M.cs ++ S.cs)) (b * 7) c0
 have HW : Wr c0 (((((((c0.setCell ⟨Z.high, b * 7, none⟩ (.bool true)).setCell ⟨Z.high, b * 7 + 1, none⟩ (.bool M.s)).setCell ⟨Z.high, b * 7 + 2, none⟩ (.slice M.a M.n M.c)).setCell ⟨Z.high, b * 7 + 3, none⟩ (.slice M.b M.m M.d)).setCell ⟨Z.high, b * 7 + 4, none⟩ (.bool S.s)).setCell ⟨Z.high, b * 7 + 5, none⟩ (.slice S.a S.n S.c)).setCell ⟨Z.high, b * 7 + 6, none⟩ (.slice S.b S.m S.d)) Z.high (b * 7) (.bool true :: (M.cs ++ S.cs)) := PD.hi.wr hb M S
 have FP := PD.setHi (v := b) (x := x) hb HW RMD RSD SF.1 SF.2
 have FB : Below n0 W (((((((c0.setCell ⟨Z.high, b * 7, none⟩ (.bool true)).setCell ⟨Z.high, b * 7 + 1, none⟩ (.bool M.s)).setCell ⟨Z.high, b * 7 + 2, none⟩ (.slice M.a M.n M.c)).setCell ⟨Z.high, b * 7 + 3, none⟩ (.slice M.b M.m M.d)).setCell ⟨Z.high, b * 7 + 4, none⟩ (.bool S.s)).setCell ⟨Z.high, b * 7 + 5, none⟩ (.slice S.a S.n S.c)).setCell ⟨Z.high, b * 7 + 6, none⟩ (.slice S.b S.m S.d)) := HW.bel _ _ hP.ge.2.2.1 BD
 have FO : ∀ b' ty, Blk W b' ty → ty ≠ 101 → (((((((c0.setCell ⟨Z.high, b * 7, none⟩ (.bool true)).setCell ⟨Z.high, b * 7 + 1, none⟩ (.bool M.s)).setCell ⟨Z.high, b * 7 + 2, none⟩ (.slice M.a M.n M.c)).setCell ⟨Z.high, b * 7 + 3, none⟩ (.slice M.b M.m M.d)).setCell ⟨Z.high, b * 7 + 4, none⟩ (.bool S.s)).setCell ⟨Z.high, b * 7 + 5, none⟩ (.slice S.a S.n S.c)).setCell ⟨Z.high, b * 7 + 6, none⟩ (.slice S.b S.m S.d)).heap[b']? = W.heap[b']? := fun b' ty q hne => (HW.oth _ (q.ne hP.hi.blk hne)).trans (OD b')
 refine Rg.wl rfl ?_
 go_simp
 exact hKK _ _ _ _ _ _ _ _ _ FP FB FO
theorem new_r26 {n0 b p : Nat} {W : World} {Z : PtL} (hP : Pt n0 W Z) (hp : Z.p = p) (hb : b < Z.N) {gr : Nat} {M : Nw} {q : Rat} (c2 : W.cell? ⟨gr, 2, none⟩ = some (.bool M.s)) (c3 : W.cell? ⟨gr, 3, none⟩ = some (.slice M.a M.n M.c)) (c4 : W.cell? ⟨gr, 4, none⟩ = some (.slice M.b M.m M.d)) (rm : RA W q M) (hn0 : n0 ≤ W.heap.size) (NB : Z.N ≤ 1000) {K : Act → World → Prop} {u0 u1 u2 u3 u4 u5 u6 u7 u9 u10 u11 u13 u14 u15 u17 u18 u19 u20 u21 u22 u23 u24 u25 u26 u27 u28 u29 u30 u31 u32 u33 u34 u35 u36 u37 u38 u39 u40 u41 u42 u43 u44 u45 u46 u47 u48 u49 u50 u51 u52 u53 u54 u55 u56 u57 u58 u59 u60 u61 u62 u63 u64 u65 u66 u67 u68 u69 u70 u71 u72 u73 u74 u75 u76 u77 u78 u79 u80 u81 u82 u83 u84 u85 u86 u87 u88 u89 u90 u91 u92 u93 u94 u95 u96 u97 u98 u99 u100 u101 u102 u103 u104 u105 u106 u107 u108 u109 u110 u111 u112 u113 u114 u115 u116 u117 u118 u119 u120 u121 u122 u123 u124 u125 u126 u127 u128 u129 u130 u131 u132 u133 u134 u135 u136 u137 u138 u139 u140 u141 u142 u143 u144 u145 u146 u147 u148 u149 u150 u151 u152 u153 u154 u155 u156 : Value}
  (hK : ∀ (x144 x145 x146 x147 x148 x149 x150 x151 x152 x153 x154 : Value) (W' : World), Pt n0 W' { Z with hi := fun j => if j = b then some ⟨q, -1⟩ else Z.hi j } → Below n0 W W' → (∀ b ty, Blk W b ty → ty ≠ 101 → W'.heap[b]? = W.heap[b]?) → K ⟨#[u0, u1, u2, u3, u4, u5, u6, u7, .pointer (some ⟨p, 0, none⟩), u9, u10, u11, .pointer (some ⟨gr, 0, none⟩), u13, u14, u15, .int .i64 (b : Int), u17, u18, u19, u20, u21, u22, u23, u24, u25, u26, u27, u28, u29, u30, u31, u32, u33, u34, u35, u36, u37, u38, u39, u40, u41, u42, u43, u44, u45, u46, u47, u48, u49, u50, u51, u52, u53, u54, u55, u56, u57, u58, u59, u60, u61, u62, u63, u64, u65, u66, u67, u68, u69, u70, u71, u72, u73, u74, u75, u76, u77, u78, u79, u80, u81, u82, u83, u84, u85, u86, u87, u88, u89, u90, u91, u92, u93, u94, u95, u96, u97, u98, u99, u100, u101, u102, u103, u104, u105, u106, u107, u108, u109, u110, u111, u112, u113, u114, u115, u116, u117, u118, u119, u120, u121, u122, u123, u124, u125, u126, u127, u128, u129, u130, u131, u132, u133, u134, u135, u136, u137, u138, u139, u140, u141, u142, u143, x144, x145, x146, x147, x148, x149, x150, x151, x152, x153, x154, u155, u156], []⟩ W') :
  (regC Try.f28 26).wp Try.prog (Only K) ⟨#[u0, u1, u2, u3, u4, u5, u6, u7, .pointer (some ⟨p, 0, none⟩), u9, u10, u11, .pointer (some ⟨gr, 0, none⟩), u13, u14, u15, .int .i64 (b : Int), u17, u18, u19, u20, u21, u22, u23, u24, u25, u26, u27, u28, u29, u30, u31, u32, u33, u34, u35, u36, u37, u38, u39, u40, u41, u42, u43, u44, u45, u46, u47, u48, u49, u50, u51, u52, u53, u54, u55, u56, u57, u58, u59, u60, u61, u62, u63, u64, u65, u66, u67, u68, u69, u70, u71, u72, u73, u74, u75, u76, u77, u78, u79, u80, u81, u82, u83, u84, u85, u86, u87, u88, u89, u90, u91, u92, u93, u94, u95, u96, u97, u98, u99, u100, u101, u102, u103, u104, u105, u106, u107, u108, u109, u110, u111, u112, u113, u114, u115, u116, u117, u118, u119, u120, u121, u122, u123, u124, u125, u126, u127, u128, u129, u130, u131, u132, u133, u134, u135, u136, u137, u138, u139, u140, u141, u142, u143, u144, u145, u146, u147, u148, u149, u150, u151, u152, u153, u154, u155, u156], []⟩ W := by
 subst hp
 rw [show regC Try.f28 26 = _ from by (simp only [regC, Try.f28, findC, Nat.reduceEqDiff, if_true, if_false, Option.getD]; rfl)]
 have hKK := hK
 clear hK
 have b0 : (0 : Int) ≤ (b : Int) := by omega
 have b1 : (b : Int) < (Z.N : Int) := by omega
 obtain ⟨_, q1, q2, _⟩ := hP.head
 obtain ⟨is, M', S', _, h0, h1, h2, h3, h4, h5, h6⟩ := (hP.hi.at_ b hb).r7
 have fz0 := hP.hi.blk.free (b * 7); have fz1 := hP.hi.blk.free (b * 7 + 1); have fz2 := hP.hi.blk.free (b * 7 + 2); have fz3 := hP.hi.blk.free (b * 7 + 3); have fz4 := hP.hi.blk.free (b * 7 + 4); have fz5 := hP.hi.blk.free (b * 7 + 5); have fz6 := hP.hi.blk.free (b * 7 + 6)
 refine Rg.wpD_start 11 [] (fun W' => W'.cell? ⟨Z.p, 2, none⟩ = some (.slice (some ⟨Z.high, 0, none⟩) Z.N Z.N) ∧ W'.cell? ⟨gr, 2, none⟩ = some (.bool M.s) ∧ W'.cell? ⟨gr, 3, none⟩ = some (.slice M.a M.n M.c) ∧ W'.cell? ⟨gr, 4, none⟩ = some (.slice M.b M.m M.d)) (by kernel_rfl) (by kernel_rfl) ?_ (fun hS ok inv => ?_)
 ·exact ⟨q2, c2, c3, c4⟩
 refine Rg.tk 0 rfl ok inv hS fun inv => ?_
 refine Rg.tk 1 rfl ok inv hS fun inv => ?_
 refine Rg.tk 2 rfl ok inv hS fun inv => ?_
 refine Rg.tk 3 rfl ok inv hS fun inv => ?_
 refine Rg.tk 4 rfl ok inv hS fun inv => ?_
 refine Rg.tk 5 rfl ok inv hS fun inv => ?_
 refine Rg.tk 6 rfl ok inv hS fun inv => ?_
 refine Rg.w1 7 rfl inv fun K' hK => ?_
 go_simp
 go_at_call 19
 refine (rint_any (-1) (by omega) (by omega) _).mono ?_
 rintro e w3 ⟨s3, a3, n3, c3', b3, m3, d3, rfl, LS, B⟩
 have B := undrew B
 have LS : RA w3 (-1) ⟨s3, a3, n3, c3', b3, m3, d3⟩ := LS
 have PX := hP.below B
 have h0 := cell_later B (Nat.le_refl _) h0; have h1 := cell_later B (Nat.le_refl _) h1; have h2 := cell_later B (Nat.le_refl _) h2; have h3 := cell_later B (Nat.le_refl _) h3; have h4 := cell_later B (Nat.le_refl _) h4; have h5 := cell_later B (Nat.le_refl _) h5; have h6 := cell_later B (Nat.le_refl _) h6
 have fz0 := PX.hi.blk.free (b * 7); have fz1 := PX.hi.blk.free (b * 7 + 1); have fz2 := PX.hi.blk.free (b * 7 + 2); have fz3 := PX.hi.blk.free (b * 7 + 3); have fz4 := PX.hi.blk.free (b * 7 + 4); have fz5 := PX.hi.blk.free (b * 7 + 5); have fz6 := PX.hi.blk.free (b * 7 + 6)
 refine Rg.st hK ?_ fun hS inv => ?_
 ·exact ⟨cell_later B (Nat.le_refl _) q2, cell_later B (Nat.le_refl _) c2, cell_later B (Nat.le_refl _) c3, cell_later B (Nat.le_refl _) c4⟩
 clear hK K'
 refine Rg.tk 8 rfl ok inv hS fun inv => ?_
 refine Rg.tk 9 rfl ok inv hS fun inv => ?_
 refine Rg.tk 10 rfl ok inv hS fun inv => ?_
 have SF := setCells_frame (g := Z.high) (.bool true :: (M.cs ++ (⟨s3, a3, n3, c3', b3, m3, d3⟩ : Nw).cs)) (b * 7) w3
 have HW : Wr w3 (((((((w3.setCell ⟨Z.high, b * 7, none⟩ (.bool true)).setCell ⟨Z.high, b * 7 + 1, none⟩ (.bool M.s)).setCell ⟨Z.high, b * 7 + 2, none⟩ (.slice M.a M.n M.c)).setCell ⟨Z.high, b * 7 + 3, none⟩ (.slice M.b M.m M.d)).setCell ⟨Z.high, b * 7 + 4, none⟩ (.bool (⟨s3, a3, n3, c3', b3, m3, d3⟩ : Nw).s)).setCell ⟨Z.high, b * 7 + 5, none⟩ (.slice (⟨s3, a3, n3, c3', b3, m3, d3⟩ : Nw).a (⟨s3, a3, n3, c3', b3, m3, d3⟩ : Nw).n (⟨s3, a3, n3, c3', b3, m3, d3⟩ : Nw).c)).setCell ⟨Z.high, b * 7 + 6, none⟩ (.slice (⟨s3, a3, n3, c3', b3, m3, d3⟩ : Nw).b (⟨s3, a3, n3, c3', b3, m3, d3⟩ : Nw).m (⟨s3, a3, n3, c3', b3, m3, d3⟩ : Nw).d)) Z.high (b * 7) (.bool true :: (M.cs ++ (⟨s3, a3, n3, c3', b3, m3, d3⟩ : Nw).cs)) := PX.hi.wr hb M (⟨s3, a3, n3, c3', b3, m3, d3⟩ : Nw)
 have FP := PX.setHi (v := b) (x := ⟨q, -1⟩) hb HW (RAt.below rm B) LS SF.1 SF.2
 have FB : Below n0 W (((((((w3.setCell ⟨Z.high, b * 7, none⟩ (.bool true)).setCell ⟨Z.high, b * 7 + 1, none⟩ (.bool M.s)).setCell ⟨Z.high, b * 7 + 2, none⟩ (.slice M.a M.n M.c)).setCell ⟨Z.high, b * 7 + 3, none⟩ (.slice M.b M.m M.d)).setCell ⟨Z.high, b * 7 + 4, none⟩ (.bool (⟨s3, a3, n3, c3', b3, m3, d3⟩ : Nw).s)).setCell ⟨Z.high, b * 7 + 5, none⟩ (.slice (⟨s3, a3, n3, c3', b3, m3, d3⟩ : Nw).a (⟨s3, a3, n3, c3', b3, m3, d3⟩ : Nw).n (⟨s3, a3, n3, c3', b3, m3, d3⟩ : Nw).c)).setCell ⟨Z.high, b * 7 + 6, none⟩ (.slice (⟨s3, a3, n3, c3', b3, m3, d3⟩ : Nw).b (⟨s3, a3, n3, c3', b3, m3, d3⟩ : Nw).m (⟨s3, a3, n3, c3', b3, m3, d3⟩ : Nw).d)) := HW.bel _ _ hP.ge.2.2.1 (B.mono hn0)
 have FO : ∀ b' ty, Blk W b' ty → ty ≠ 101 → (((((((w3.setCell ⟨Z.high, b * 7, none⟩ (.bool true)).setCell ⟨Z.high, b * 7 + 1, none⟩ (.bool M.s)).setCell ⟨Z.high, b * 7 + 2, none⟩ (.slice M.a M.n M.c)).setCell ⟨Z.high, b * 7 + 3, none⟩ (.slice M.b M.m M.d)).setCell ⟨Z.high, b * 7 + 4, none⟩ (.bool (⟨s3, a3, n3, c3', b3, m3, d3⟩ : Nw).s)).setCell ⟨Z.high, b * 7 + 5, none⟩ (.slice (⟨s3, a3, n3, c3', b3, m3, d3⟩ : Nw).a (⟨s3, a3, n3, c3', b3, m3, d3⟩ : Nw).n (⟨s3, a3, n3, c3', b3, m3, d3⟩ : Nw).c)).setCell ⟨Z.high, b * 7 + 6, none⟩ (.slice (⟨s3, a3, n3, c3', b3, m3, d3⟩ : Nw).b (⟨s3, a3, n3, c3', b3, m3, d3⟩ : Nw).m (⟨s3, a3, n3, c3', b3, m3, d3⟩ : Nw).d)).heap[b']? = W.heap[b']? := fun b' ty q hne => (HW.oth _ (q.ne hP.hi.blk hne)).trans (B.block _ q.lt)
 refine Rg.wl rfl ?_
 go_simp
 exact hKK _ _ _ _ _ _ _ _ _ _ _ _ FP FB FO
theorem new_r21 {n0 b p : Nat} {W : World} {Z : PtL} (hP : Pt n0 W Z) (hp : Z.p = p) (hb : b < Z.N) {ga : Nat} {M S : Nw} {x : V} (X : VB W ga M S) (rm : RA W x.m M) (rs : RA W x.s S) (hn0 : n0 ≤ W.heap.size) (NB : Z.N ≤ 1000) {K : Act → World → Prop} {u0 u1 u2 u3 u4 u5 u6 u7 u9 u10 u11 u12 u13 u14 u15 u18 u19 u20 u21 u22 u23 u24 u25 u26 u27 u28 u29 u30 u31 u32 u33 u34 u35 u36 u37 u38 u39 u40 u41 u42 u43 u44 u45 u46 u47 u48 u49 u50 u51 u52 u53 u54 u55 u56 u57 u58 u59 u60 u61 u62 u63 u64 u65 u66 u67 u68 u69 u70 u71 u72 u73 u74 u75 u76 u77 u78 u79 u80 u81 u82 u83 u84 u85 u86 u87 u88 u89 u90 u91 u92 u93 u94 u95 u96 u97 u98 u99 u100 u101 u102 u103 u104 u105 u106 u107 u108 u109 u110 u111 u112 u113 u114 u115 u116 u117 u118 u119 u120 u121 u122 u123 u124 u125 u126 u127 u128 u129 u130 u131 u132 u133 u134 u135 u136 u137 u138 u139 u140 u141 u142 u143 u144 u145 u146 u147 u148 u149 u150 u151 u152 u153 u154 u155 u156 : Value}
  (hK : ∀ (x107 x108 x109 x110 x111 x112 x113 x114 x115 x116 x117 x118 x119 x120 x121 x122 : Value) (W' : World), Pt n0 W' { Z with lo := fun j => if j = b then some x else Z.lo j, hi := fun j => if j = b then some x else Z.hi j } → Below n0 W W' → (∀ b ty, Blk W b ty → ty ≠ 101 → W'.heap[b]? = W.heap[b]?) → K ⟨#[u0, u1, u2, u3, u4, u5, u6, u7, .pointer (some ⟨p, 0, none⟩), u9, u10, u11, u12, u13, u14, u15, .int .i64 (b : Int), .pointer (some ⟨ga, 0, none⟩), u18, u19, u20, u21, u22, u23, u24, u25, u26, u27, u28, u29, u30, u31, u32, u33, u34, u35, u36, u37, u38, u39, u40, u41, u42, u43, u44, u45, u46, u47, u48, u49, u50, u51, u52, u53, u54, u55, u56, u57, u58, u59, u60, u61, u62, u63, u64, u65, u66, u67, u68, u69, u70, u71, u72, u73, u74, u75, u76, u77, u78, u79, u80, u81, u82, u83, u84, u85, u86, u87, u88, u89, u90, u91, u92, u93, u94, u95, u96, u97, u98, u99, u100, u101, u102, u103, u104, u105, u106, x107, x108, x109, x110, x111, x112, x113, x114, x115, x116, x117, x118, x119, x120, x121, x122, u123, u124, u125, u126, u127, u128, u129, u130, u131, u132, u133, u134, u135, u136, u137, u138, u139, u140, u141, u142, u143, u144, u145, u146, u147, u148, u149, u150, u151, u152, u153, u154, u155, u156], []⟩ W') :
  (regC Try.f28 21).wp Try.prog (Only K) ⟨#[u0, u1, u2, u3, u4, u5, u6, u7, .pointer (some ⟨p, 0, none⟩), u9, u10, u11, u12, u13, u14, u15, .int .i64 (b : Int), .pointer (some ⟨ga, 0, none⟩), u18, u19, u20, u21, u22, u23, u24, u25, u26, u27, u28, u29, u30, u31, u32, u33, u34, u35, u36, u37, u38, u39, u40, u41, u42, u43, u44, u45, u46, u47, u48, u49, u50, u51, u52, u53, u54, u55, u56, u57, u58, u59, u60, u61, u62, u63, u64, u65, u66, u67, u68, u69, u70, u71, u72, u73, u74, u75, u76, u77, u78, u79, u80, u81, u82, u83, u84, u85, u86, u87, u88, u89, u90, u91, u92, u93, u94, u95, u96, u97, u98, u99, u100, u101, u102, u103, u104, u105, u106, u107, u108, u109, u110, u111, u112, u113, u114, u115, u116, u117, u118, u119, u120, u121, u122, u123, u124, u125, u126, u127, u128, u129, u130, u131, u132, u133, u134, u135, u136, u137, u138, u139, u140, u141, u142, u143, u144, u145, u146, u147, u148, u149, u150, u151, u152, u153, u154, u155, u156], []⟩ W := by
 subst hp
 rw [show regC Try.f28 21 = _ from by (simp only [regC, Try.f28, findC, Nat.reduceEqDiff, if_true, if_false, Option.getD]; rfl)]
 have hKK := hK
 clear hK
 have b0 : (0 : Int) ≤ (b : Int) := by omega
 have b1 : (b : Int) < (Z.N : Int) := by omega
 obtain ⟨_, q1, q2, _⟩ := hP.head
 obtain ⟨is, M', S', _, h0, h1, h2, h3, h4, h5, h6⟩ := (hP.hi.at_ b hb).r7
 have fz0 := hP.hi.blk.free (b * 7); have fz1 := hP.hi.blk.free (b * 7 + 1); have fz2 := hP.hi.blk.free (b * 7 + 2); have fz3 := hP.hi.blk.free (b * 7 + 3); have fz4 := hP.hi.blk.free (b * 7 + 4); have fz5 := hP.hi.blk.free (b * 7 + 5); have fz6 := hP.hi.blk.free (b * 7 + 6)
 obtain ⟨v0, v1, v2, v3, v4, v5, _⟩ := X.reads
 have PD := hP.drew; have XD : VB W.drew ga M S := X; have RMD : RA W.drew x.m M := RAt.below rm (Below.refl _ _).drew; have RSD : RA W.drew x.s S := RAt.below rs (Below.refl _ _).drew
 have BD : Below n0 W W.drew := (Below.refl _ _).drew
 have OD : ∀ b : Nat, W.drew.heap[b]? = W.heap[b]? := fun _ => rfl
 have LD : Limb W W.drew := Limb.of_below (Below.refl _ _).drew
 obtain ⟨is', M2, S2, _, l0, l1, l2, l3, l4, l5, l6⟩ := (hP.lo.at_ b hb).r7
 have lz0 := hP.lo.blk.free (b * 7); have lz1 := hP.lo.blk.free (b * 7 + 1); have lz2 := hP.lo.blk.free (b * 7 + 2); have lz3 := hP.lo.blk.free (b * 7 + 3); have lz4 := hP.lo.blk.free (b * 7 + 4); have lz5 := hP.lo.blk.free (b * 7 + 5); have lz6 := hP.lo.blk.free (b * 7 + 6)
 refine Rg.wpD_start 17 [] (fun W' => W'.cell? ⟨Z.p, 1, none⟩ = some (.slice (some ⟨Z.low, 0, none⟩) Z.N Z.N) ∧ W'.cell? ⟨Z.p, 2, none⟩ = some (.slice (some ⟨Z.high, 0, none⟩) Z.N Z.N) ∧ W'.cell? ⟨ga, 0, none⟩ = some (.bool M.s) ∧ W'.cell? ⟨ga, 1, none⟩ = some (.slice M.a M.n M.c) ∧ W'.cell? ⟨ga, 2, none⟩ = some (.slice M.b M.m M.d) ∧ W'.cell? ⟨ga, 3, none⟩ = some (.bool S.s) ∧ W'.cell? ⟨ga, 4, none⟩ = some (.slice S.a S.n S.c) ∧ W'.cell? ⟨ga, 5, none⟩ = some (.slice S.b S.m S.d)) (by kernel_rfl) (by kernel_rfl) ?_ (fun hS ok inv => ?_)
 ·exact ⟨q1, q2, v0, v1, v2, v3, v4, v5⟩
 refine Rg.tk 0 rfl ok inv hS fun inv => ?_
 refine Rg.tk 1 rfl ok inv hS fun inv => ?_
 refine Rg.tk 2 rfl ok inv hS fun inv => ?_
 refine Rg.tk 3 rfl ok inv hS fun inv => ?_
 refine Rg.tk 4 rfl ok inv hS fun inv => ?_
 refine Rg.tk 5 rfl ok inv hS fun inv => ?_
 refine Rg.tk 6 rfl ok inv hS fun inv => ?_
 refine Rg.tk 7 rfl ok inv hS fun inv => ?_
 refine Rg.tk 8 rfl ok inv hS fun inv => ?_
 refine Rg.tk 9 rfl ok inv hS fun inv => ?_
 refine Rg.tk 10 rfl ok inv hS fun inv => ?_
 refine Rg.tk 11 rfl ok inv hS fun inv => ?_
 refine Rg.tk 12 rfl ok inv hS fun inv => ?_
 refine Rg.tk 13 rfl ok inv hS fun inv => ?_
 refine Rg.tk 14 rfl ok inv hS fun inv => ?_
 generalize W.drew = c0 at *
 clear q1 q2 v0 v1 v2 v3 v4 v5 h0 h1 h2 h3 h4 h5 h6 fz0 fz1 fz2 fz3 fz4 fz5 fz6
 obtain ⟨_, q1, q2, _⟩ := PD.head
 obtain ⟨v0, v1, v2, v3, v4, v5, _⟩ := XD.reads
 obtain ⟨is, M', S', _, h0, h1, h2, h3, h4, h5, h6⟩ := (PD.hi.at_ b hb).r7
 have fz0 := PD.hi.blk.free (b * 7); have fz1 := PD.hi.blk.free (b * 7 + 1); have fz2 := PD.hi.blk.free (b * 7 + 2); have fz3 := PD.hi.blk.free (b * 7 + 3); have fz4 := PD.hi.blk.free (b * 7 + 4); have fz5 := PD.hi.blk.free (b * 7 + 5); have fz6 := PD.hi.blk.free (b * 7 + 6)
 clear l0 l1 l2 l3 l4 l5 l6 lz0 lz1 lz2 lz3 lz4 lz5 lz6
 obtain ⟨is', M2, S2, _, l0, l1, l2, l3, l4, l5, l6⟩ := (PD.lo.at_ b hb).r7
 have lz0 := PD.lo.blk.free (b * 7); have lz1 := PD.lo.blk.free (b * 7 + 1); have lz2 := PD.lo.blk.free (b * 7 + 2); have lz3 := PD.lo.blk.free (b * 7 + 3); have lz4 := PD.lo.blk.free (b * 7 + 4); have lz5 := PD.lo.blk.free (b * 7 + 5); have lz6 := PD.lo.blk.free (b * 7 + 6)
 have SF1 := setCells_frame (g := Z.low) (.bool true :: (M.cs ++ S.cs)) (b * 7) c0
 have HW1 : Wr c0 (((((((c0.setCell ⟨Z.low, b * 7, none⟩ (.bool true)).setCell ⟨Z.low, b * 7 + 1, none⟩ (.bool M.s)).setCell ⟨Z.low, b * 7 + 2, none⟩ (.slice M.a M.n M.c)).setCell ⟨Z.low, b * 7 + 3, none⟩ (.slice M.b M.m M.d)).setCell ⟨Z.low, b * 7 + 4, none⟩ (.bool S.s)).setCell ⟨Z.low, b * 7 + 5, none⟩ (.slice S.a S.n S.c)).setCell ⟨Z.low, b * 7 + 6, none⟩ (.slice S.b S.m S.d)) Z.low (b * 7) (.bool true :: (M.cs ++ S.cs)) := PD.lo.wr hb M S
 have PX := PD.setLo (v := b) (x := x) hb HW1 RMD RSD SF1.1 SF1.2
 have LM := PD.lo.limb hb HW1
 have PB : Below n0 W (((((((c0.setCell ⟨Z.low, b * 7, none⟩ (.bool true)).setCell ⟨Z.low, b * 7 + 1, none⟩ (.bool M.s)).setCell ⟨Z.low, b * 7 + 2, none⟩ (.slice M.a M.n M.c)).setCell ⟨Z.low, b * 7 + 3, none⟩ (.slice M.b M.m M.d)).setCell ⟨Z.low, b * 7 + 4, none⟩ (.bool S.s)).setCell ⟨Z.low, b * 7 + 5, none⟩ (.slice S.a S.n S.c)).setCell ⟨Z.low, b * 7 + 6, none⟩ (.slice S.b S.m S.d)) := HW1.bel _ _ hP.ge.2.1 BD
 have XN : VB (((((((c0.setCell ⟨Z.low, b * 7, none⟩ (.bool true)).setCell ⟨Z.low, b * 7 + 1, none⟩ (.bool M.s)).setCell ⟨Z.low, b * 7 + 2, none⟩ (.slice M.a M.n M.c)).setCell ⟨Z.low, b * 7 + 3, none⟩ (.slice M.b M.m M.d)).setCell ⟨Z.low, b * 7 + 4, none⟩ (.bool S.s)).setCell ⟨Z.low, b * 7 + 5, none⟩ (.slice S.a S.n S.c)).setCell ⟨Z.low, b * 7 + 6, none⟩ (.slice S.b S.m S.d)) ga M S := (HW1.oth _ (Blk.ne (w := W) (ty := 76) ⟨_, X⟩ hP.lo.blk (by decide))).trans XD
 obtain ⟨y0, y1, y2, y3, y4, y5, _⟩ := XN.reads
 have z1 : (((((((c0.setCell ⟨Z.low, b * 7, none⟩ (.bool true)).setCell ⟨Z.low, b * 7 + 1, none⟩ (.bool M.s)).setCell ⟨Z.low, b * 7 + 2, none⟩ (.slice M.a M.n M.c)).setCell ⟨Z.low, b * 7 + 3, none⟩ (.slice M.b M.m M.d)).setCell ⟨Z.low, b * 7 + 4, none⟩ (.bool S.s)).setCell ⟨Z.low, b * 7 + 5, none⟩ (.slice S.a S.n S.c)).setCell ⟨Z.low, b * 7 + 6, none⟩ (.slice S.b S.m S.d)).cell? ⟨Z.p, 1, none⟩ = some (.slice (some ⟨Z.low, 0, none⟩) Z.N Z.N) := PX.head.2.1
 have z2 : (((((((c0.setCell ⟨Z.low, b * 7, none⟩ (.bool true)).setCell ⟨Z.low, b * 7 + 1, none⟩ (.bool M.s)).setCell ⟨Z.low, b * 7 + 2, none⟩ (.slice M.a M.n M.c)).setCell ⟨Z.low, b * 7 + 3, none⟩ (.slice M.b M.m M.d)).setCell ⟨Z.low, b * 7 + 4, none⟩ (.bool S.s)).setCell ⟨Z.low, b * 7 + 5, none⟩ (.slice S.a S.n S.c)).setCell ⟨Z.low, b * 7 + 6, none⟩ (.slice S.b S.m S.d)).cell? ⟨Z.p, 2, none⟩ = some (.slice (some ⟨Z.high, 0, none⟩) Z.N Z.N) := PX.head.2.2.1
 refine Rg.w1 15 rfl inv fun K' hK => ?_
 (try simp only [zA, zB, zC])
 go_simp
 refine Rg.st hK ?_ fun hS inv => ?_
 ·exact ⟨z1, z2, y0, y1, y2, y3, y4, y5⟩
 clear hK K'
 generalize hw4 : (((((((c0.setCell ⟨Z.low, b * 7, none⟩ (.bool true)).setCell ⟨Z.low, b * 7 + 1, none⟩ (.bool M.s)).setCell ⟨Z.low, b * 7 + 2, none⟩ (.slice M.a M.n M.c)).setCell ⟨Z.low, b * 7 + 3, none⟩ (.slice M.b M.m M.d)).setCell ⟨Z.low, b * 7 + 4, none⟩ (.bool S.s)).setCell ⟨Z.low, b * 7 + 5, none⟩ (.slice S.a S.n S.c)).setCell ⟨Z.low, b * 7 + 6, none⟩ (.slice S.b S.m S.d)) = w4 at *
 clear hw4 h0 h1 h2 h3 h4 h5 h6 fz0 fz1 fz2 fz3 fz4 fz5 fz6
 obtain ⟨is, M', S', _, h0, h1, h2, h3, h4, h5, h6⟩ := (PX.hi.at_ b hb).r7
 have fz0 := PX.hi.blk.free (b * 7); have fz1 := PX.hi.blk.free (b * 7 + 1); have fz2 := PX.hi.blk.free (b * 7 + 2); have fz3 := PX.hi.blk.free (b * 7 + 3); have fz4 := PX.hi.blk.free (b * 7 + 4); have fz5 := PX.hi.blk.free (b * 7 + 5); have fz6 := PX.hi.blk.free (b * 7 + 6)
 have h0 : w4.cell? ⟨Z.high, b * 7, none⟩ = some (.bool is) := h0
 have h1 : w4.cell? ⟨Z.high, b * 7 + 1, none⟩ = some (.bool M'.s) := h1
 have h2 : w4.cell? ⟨Z.high, b * 7 + 2, none⟩ = some (.slice M'.a M'.n M'.c) := h2
 have h3 : w4.cell? ⟨Z.high, b * 7 + 3, none⟩ = some (.slice M'.b M'.m M'.d) := h3
 have h4 : w4.cell? ⟨Z.high, b * 7 + 4, none⟩ = some (.bool S'.s) := h4
 have h5 : w4.cell? ⟨Z.high, b * 7 + 5, none⟩ = some (.slice S'.a S'.n S'.c) := h5
 have h6 : w4.cell? ⟨Z.high, b * 7 + 6, none⟩ = some (.slice S'.b S'.m S'.d) := h6
 have fz0 : w4.frozen? ⟨Z.high, b * 7, none⟩ = false := fz0
 have fz1 : w4.frozen? ⟨Z.high, b * 7 + 1, none⟩ = false := fz1
 have fz2 : w4.frozen? ⟨Z.high, b * 7 + 2, none⟩ = false := fz2
 have fz3 : w4.frozen? ⟨Z.high, b * 7 + 3, none⟩ = false := fz3
 have fz4 : w4.frozen? ⟨Z.high, b * 7 + 4, none⟩ = false := fz4
 have fz5 : w4.frozen? ⟨Z.high, b * 7 + 5, none⟩ = false := fz5
 have fz6 : w4.frozen? ⟨Z.high, b * 7 + 6, none⟩ = false := fz6
 refine Rg.tk 16 rfl ok inv hS fun inv => ?_
 have LM' : Limb W w4 := LD.trans LM
 have SF := setCells_frame (g := Z.high) (.bool true :: (M.cs ++ S.cs)) (b * 7) w4
 have HW : Wr w4 (((((((w4.setCell ⟨Z.high, b * 7, none⟩ (.bool true)).setCell ⟨Z.high, b * 7 + 1, none⟩ (.bool M.s)).setCell ⟨Z.high, b * 7 + 2, none⟩ (.slice M.a M.n M.c)).setCell ⟨Z.high, b * 7 + 3, none⟩ (.slice M.b M.m M.d)).setCell ⟨Z.high, b * 7 + 4, none⟩ (.bool S.s)).setCell ⟨Z.high, b * 7 + 5, none⟩ (.slice S.a S.n S.c)).setCell ⟨Z.high, b * 7 + 6, none⟩ (.slice S.b S.m S.d)) Z.high (b * 7) (.bool true :: (M.cs ++ S.cs)) := PX.hi.wr hb M S
 have FP := PX.setHi (v := b) (x := x) hb HW (rm.limb LM') (rs.limb LM') SF.1 SF.2
 have FB : Below n0 W (((((((w4.setCell ⟨Z.high, b * 7, none⟩ (.bool true)).setCell ⟨Z.high, b * 7 + 1, none⟩ (.bool M.s)).setCell ⟨Z.high, b * 7 + 2, none⟩ (.slice M.a M.n M.c)).setCell ⟨Z.high, b * 7 + 3, none⟩ (.slice M.b M.m M.d)).setCell ⟨Z.high, b * 7 + 4, none⟩ (.bool S.s)).setCell ⟨Z.high, b * 7 + 5, none⟩ (.slice S.a S.n S.c)).setCell ⟨Z.high, b * 7 + 6, none⟩ (.slice S.b S.m S.d)) := HW.bel _ _ hP.ge.2.2.1 PB
 have FO : ∀ b' ty, Blk W b' ty → ty ≠ 101 → (((((((w4.setCell ⟨Z.high, b * 7, none⟩ (.bool true)).setCell ⟨Z.high, b * 7 + 1, none⟩ (.bool M.s)).setCell ⟨Z.high, b * 7 + 2, none⟩ (.slice M.a M.n M.c)).setCell ⟨Z.high, b * 7 + 3, none⟩ (.slice M.b M.m M.d)).setCell ⟨Z.high, b * 7 + 4, none⟩ (.bool S.s)).setCell ⟨Z.high, b * 7 + 5, none⟩ (.slice S.a S.n S.c)).setCell ⟨Z.high, b * 7 + 6, none⟩ (.slice S.b S.m S.d)).heap[b']? = W.heap[b']? := fun b' ty q hne => (HW.oth _ (q.ne hP.hi.blk hne)).trans ((HW1.oth _ (q.ne hP.lo.blk hne)).trans (OD b'))
 refine Rg.wl rfl ?_
 go_simp
 exact hKK _ _ _ _ _ _ _ _ _ _ _ _ _ _ _ _ _ FP FB FO
end Go.Proofs.Ytijdglogadnbcaa
