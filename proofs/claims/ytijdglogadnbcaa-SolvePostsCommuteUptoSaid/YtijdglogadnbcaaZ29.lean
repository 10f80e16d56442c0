/- Single regions of lp.New. Printed by genMe.py. -/
import Derived.Test.YtijdglogadnbcaaZ28
import Derived.Test.YtijdglogadnbcaaZ26
import Derived.Test.YtijdglogadnbcaaZ21
set_option linter.unusedVariables false
set_option linter.unusedSimpArgs false
set_option maxRecDepth 100000
set_option maxHeartbeats 40000000
namespace Go.Proofs.Ytijdglogadnbcaa
open Go.RowKit Nt Bl
def FreshB (n0 : Nat) (w : World) (N g : Nat) : Prop := BndR 101 w g N (fun _ => none) ∧ n0 ≤ g
theorem FreshB.below {n0 : Nat} {w w' : World} {N g : Nat} (h : FreshB n0 w N g) (hb : Below w.heap.size w w') : FreshB n0 w' N g := ⟨h.1.keep (hb.block _ h.1.blk.lt) (Limb.of_below hb), h.2⟩
theorem Pt.newLine' {n0 : Nat} {w w1 : World} {Z : PtL} {g : Nat} (h : Pt n0 w Z) (hb : Below w.heap.size w w1) (hg : w.heap.size ≤ g) (hl : LineR w1 g Z.n (Z.T Z.nl)) (hn : n0 ≤ w.heap.size) (hit : Z.it ≤ Z.nl) : Pt n0 w1 { Z with nl := Z.nl + 1, line := fun k => if k = Z.nl then g else Z.line k } := by
 have k := h.newLine hb hg hl hn hit
 have e : (fun k => if k = Z.nl then Z.T Z.nl else Z.T k) = Z.T := by
  funext j
  by_cases q : j = Z.nl
  ·rw [if_pos q, q]
  ·rw [if_neg q]
 rw [e] at k
 exact k
theorem info83 : (Try.prog.info? 59).map (fun i => (i.zero, i.size, i.bytes)) = some (some (.slice none 0 0), 1, 24) := by kernel_rfl
theorem limb_set {w : World} {g i : Nat} {v old : Value} (h : w.cell? ⟨g, i, none⟩ = some old) (hn : Nu old) : Limb w (w.setCell ⟨g, i, none⟩ v) := by
 have hw := wr_cells w g i [v] fun j hj => by
  obtain rfl : j = 0 := by simpa using hj
  rw [Nat.add_zero, h]; rfl
 exact hw.limb fun j x hj => by
  obtain rfl : j = 0 := by simpa using hj
  rw [Nat.add_zero, h]
  exact fun e => hn x (Option.some.inj e)
theorem Ow.nuv {w : World} {base e size n : Nat} {v : Value} {xs : List Value} (h : Ow w base e size v n xs) : Nu v := by
 rcases h.own.2 with ⟨rfl, _⟩ | ⟨g, cap, cur, rfl, _⟩ <;> intro x hx <;> simp at hx
theorem nu_int (x : Int) : Nu (.int .i64 x) := fun y h => by simp at h
theorem nu_slice (a : Option Addr) (n c : Nat) : Nu (.slice a n c) := fun y h => by simp at h
variable {n0 : Nat} {w W : World} {Z : PtL}
theorem Pt.setB {v : Value} (h : Pt n0 w Z) (hn : Nu Z.hb) : Pt n0 (w.setCell ⟨Z.p, 4, none⟩ v) { Z with hb := v } := by
 refine h.hold (fun b hb => heap_setCell_other _ _ _ _ hb) (limb_set h.head.2.2.2.2.1 hn) rfl ?_ (by simp) ⟨rfl, rfl, rfl⟩
 have := heap_setCell_same w Z.p 4 _ _ v h.hd
 simpa using this
theorem Pt.setF {v : Value} (h : Pt n0 w Z) (hn : Nu Z.hf) : Pt n0 (w.setCell ⟨Z.p, 5, none⟩ v) { Z with hf := v } := by
 refine h.hold (fun b hb => heap_setCell_other _ _ _ _ hb) (limb_set h.head.2.2.2.2.2.1 hn) rfl ?_ (by simp) ⟨rfl, rfl, rfl⟩
 have := heap_setCell_same w Z.p 5 _ _ v h.hd
 simpa using this
theorem Pt.setT {v : Value} (h : Pt n0 w Z) (hn : Nu Z.ht) : Pt n0 (w.setCell ⟨Z.p, 6, none⟩ v) { Z with ht := v } := by
 refine h.hold (fun b hb => heap_setCell_other _ _ _ _ hb) (limb_set h.head.2.2.2.2.2.2.1 hn) rfl ?_ (by simp) ⟨rfl, rfl, rfl⟩
 have := heap_setCell_same w Z.p 6 _ _ v h.hd
 simpa using this
/-- From W on, the problem has been built on; other blocks than the two rows' stay. -/
structure S19 (n0 : Nat) (W cur : World) (Z : PtL) : Prop where
 pt : Pt n0 cur Z
 bl : Below n0 W cur
 sz : W.heap.size ≤ cur.heap.size
 ot : ∀ b ty, Blk W b ty → ty ≠ 3 → ty ≠ 59 → cur.heap[b]? = W.heap[b]?
theorem S19.later {cur nxt : World} (h : S19 n0 W cur Z) (hn : n0 ≤ W.heap.size) (hb : Below cur.heap.size cur nxt) : S19 n0 W nxt Z :=
 ⟨h.pt.below hb, Below.trans h.bl (hb.mono (Nat.le_trans hn h.sz)), Nat.le_trans h.sz hb.size, fun b ty q h1 h2 => (hb.block b (Nat.lt_of_lt_of_le q.lt h.sz)).trans (h.ot b ty q h1 h2)⟩
theorem S19.appB {cur nxt : World} {bv' : Value} (h : S19 n0 W cur Z) (hn : n0 ≤ W.heap.size) (O : Ow nxt n0 3 1 bv' (Z.ib + 1) (ints Z.n (Z.ib + 1))) (G : cur.grownBy nxt Z.bv.ownBlock) (far : ∀ g, bv'.ownBlock = some g → Z.bv.ownBlock = some g ∨ cur.heap.size ≤ g) : S19 n0 W nxt { Z with bv := bv', ib := Z.ib + 1 } := by
 refine ⟨h.pt.appB O G fun g q e => ?_, below_own h.bl h.pt.bo.own (Nat.le_trans hn h.sz) G, Nat.le_trans h.sz G.size, fun b ty q h1 h2 => ?_⟩
 ·rcases far g q with r | r
  ·exact h.pt.bf g r e
  ·have := (h.pt.fo.blk e).lt; omega
 ·have qc : Blk cur b ty := q.keep (h.ot b ty q h1 h2)
  exact (Pt.oth h.pt.bo G qc h1).trans (h.ot b ty q h1 h2)
theorem S19.appT {cur nxt : World} {tv' : Value} (h : S19 n0 W cur Z) (hn : n0 ≤ W.heap.size) (O : Ow nxt n0 59 1 tv' (Z.it + 1) (lnV Z.line Z.n (Z.it + 1))) (G : cur.grownBy nxt Z.tv.ownBlock) : S19 n0 W nxt { Z with tv := tv', it := Z.it + 1 } := by
 refine ⟨h.pt.appT O G, below_own h.bl h.pt.to_.own (Nat.le_trans hn h.sz) G, Nat.le_trans h.sz G.size, fun b ty q h1 h2 => ?_⟩
 have qc : Blk cur b ty := q.keep (h.ot b ty q h1 h2)
 exact (Pt.oth h.pt.to_ G qc h2).trans (h.ot b ty q h1 h2)
theorem BndR.wr {w : World} {g N v : Nat} {f : Nat → Option V} (h : BndR 101 w g N f) (hv : v < N) (M S : Nw) : Wr w (w.setCells g (v * 7) (.bool true :: (M.cs ++ S.cs))) g (v * 7) (.bool true :: (M.cs ++ S.cs)) := by
 obtain ⟨is, M', S', _, a0, a1, a2, a3, a4, a5, a6⟩ := (h.at_ v hv).r7
 refine wr_cells w g _ _ fun j hj => ?_
 have hj : j < 7 := by simpa [Nw.cs] using hj
 rcases j with _ | _ | _ | _ | _ | _ | _ | j
 ·rw [Nat.add_zero, a0]; rfl
 ·rw [show v * 7 + (0 + 1) = v * 7 + 1 from rfl, a1]; rfl
 ·rw [show v * 7 + (0 + 1 + 1) = v * 7 + 2 from rfl, a2]; rfl
 ·rw [show v * 7 + (0 + 1 + 1 + 1) = v * 7 + 3 from rfl, a3]; rfl
 ·rw [show v * 7 + (0 + 1 + 1 + 1 + 1) = v * 7 + 4 from rfl, a4]; rfl
 ·rw [show v * 7 + (0 + 1 + 1 + 1 + 1 + 1) = v * 7 + 5 from rfl, a5]; rfl
 ·rw [show v * 7 + (0 + 1 + 1 + 1 + 1 + 1 + 1) = v * 7 + 6 from rfl, a6]; rfl
 ·omega
theorem setCells_frame {g : Nat} : ∀ (vs : List Value) (o : Nat) (w : World), w.heap.size = (w.setCells g o vs).heap.size ∧ (w.setCells g o vs).os = w.os ∧ (w.setCells g o vs).tape = w.tape ∧ (w.setCells g o vs).output = w.output
 | [], _, _ => ⟨rfl, rfl, rfl, rfl⟩
 | v :: vs, o, w => by
  obtain ⟨a, b, c, d⟩ := setCells_frame (g := g) vs (o + 1) (w.setCell ⟨g, o, none⟩ v)
  exact ⟨by rw [show w.setCells g o (v :: vs) = (w.setCell ⟨g, o, none⟩ v).setCells g (o + 1) vs from rfl, ← a]; simp, b, c, d⟩
end Go.Proofs.Ytijdglogadnbcaa
namespace Go.Proofs.Ytijdglogadnbcaa
open Go
def findK : Code → Nat → Option Code
 | .cond (.tmp t) a b, k => if t = k then some (.cond (.tmp t) a b) else match findK a k with | some c => some c | none => findK b k
 | .cond _ a b, k => match findK a k with | some c => some c | none => findK b k
 | .seq a b, k => match findK a k with | some c => some c | none => findK b k
 | .block _ a, k => findK a k
 | .loop a, k => findK a k
 | .scope a, k => findK a k
 | _, _ => none
def condC (f : Func) (k : Nat) : Code := match f.body with | some c => (findK c k).getD .skip | none => .skip
end Go.Proofs.Ytijdglogadnbcaa
namespace Go.Proofs.Ytijdglogadnbcaa
open Go.RowKit Nt Bl
theorem rz_r24 {W : World} {p now g18 g19 N b : Nat} {q : Rat} {u nb : V} {up : Bool} {M12 S12 M S N' : Nw} (q3 : W.cell? ⟨p, 3, none⟩ = some (.slice (some ⟨now, 0, none⟩) N N)) (b0_ : W.cell? ⟨g18, 0, none⟩ = some (.bool true)) (b1_ : W.cell? ⟨g18, 1, none⟩ = some (.bool M12.s)) (b2_ : W.cell? ⟨g18, 2, none⟩ = some (.slice M12.a M12.n M12.c)) (b3_ : W.cell? ⟨g18, 3, none⟩ = some (.slice M12.b M12.m M12.d)) (b4_ : W.cell? ⟨g18, 4, none⟩ = some (.bool S12.s)) (b5_ : W.cell? ⟨g18, 5, none⟩ = some (.slice S12.a S12.n S12.c)) (b6_ : W.cell? ⟨g18, 6, none⟩ = some (.slice S12.b S12.m S12.d)) (c0_ : W.cell? ⟨now, b * 6, none⟩ = some (.bool M.s)) (c1_ : W.cell? ⟨now, b * 6 + 1, none⟩ = some (.slice M.a M.n M.c)) (c2_ : W.cell? ⟨now, b * 6 + 2, none⟩ = some (.slice M.b M.m M.d)) (c3_ : W.cell? ⟨now, b * 6 + 3, none⟩ = some (.bool S.s)) (c4_ : W.cell? ⟨now, b * 6 + 4, none⟩ = some (.slice S.a S.n S.c)) (c5_ : W.cell? ⟨now, b * 6 + 5, none⟩ = some (.slice S.b S.m S.d)) (d0_ : W.cell? ⟨g19, 0, none⟩ = some (.bool N'.s)) (d1_ : W.cell? ⟨g19, 1, none⟩ = some (.slice N'.a N'.n N'.c)) (d2_ : W.cell? ⟨g19, 2, none⟩ = some (.slice N'.b N'.m N'.d))
  (ru : RA W u.m M12 ∧ RA W u.s S12) (rn : RA W nb.m M ∧ RA W nb.s S) (SU : Sz u.m 1048576 ∧ Sz u.s 1048576) (SN : Sz nb.m 1048576 ∧ Sz nb.s 1048576) (rT : RA W q N') (SA : Sz q 1048576) (AN : q ≠ 0) (hbN : b < N)
  {K : Act → World → Prop} {u1 u2 u3 u4 u5 u6 u7 u8 u9 u10 u11 u12 u13 u14 u15 u20 u21 u22 u23 u24 u25 u26 u27 u28 u29 u30 u31 u32 u33 u34 u35 u36 u37 u38 u39 u40 u41 u42 u43 u44 u45 u46 u47 u48 u49 u50 u51 u52 u53 u54 u55 u56 u57 u58 u59 u60 u61 u62 u63 u64 u65 u66 u67 u68 u69 u70 u71 u72 u73 u74 u75 u76 u77 u78 u79 u80 u81 u82 u83 u84 u85 u86 u87 u88 u89 u90 u91 u92 u93 u94 u95 u96 u97 u98 u99 u100 u101 u102 u103 u104 u105 u106 u107 u108 u109 u110 u111 u112 u113 u114 u115 u116 u117 u118 u119 u120 u121 u122 u123 u124 u125 u126 u127 u128 u129 u130 u131 u132 u133 u134 u135 u136 u137 u138 u139 u140 u141 u142 u143 u144 u145 u146 u147 u148 u149 u150 u151 u152 u153 u154 u155 u156 u157 u158 u159 u160 u161 u162 u163 u164 u165 u166 u167 u168 u169 u170 u171 u172 u173 u174 u175 u176 u177 u178 u179 u180 u181 u182 u183 u184 u185 u186 u187 u188 u189 : Value}
  (hK : ∀ (g : Nat) (M14 S14 : Nw) (x129 x130 x131 x132 x133 x134 x135 x136 x137 x138 x139 x140 x141 x142 x143 : Value) (W' : World), VB W' g M14 S14 → RA W' (V.mul (1 / q) (vdist u nb up)).m M14 → RA W' (V.mul (1 / q) (vdist u nb up)).s S14 → Below W.heap.size W W' → K ⟨#[.pointer (some ⟨p, 0, none⟩), u1, u2, u3, u4, u5, u6, u7, u8, u9, u10, u11, u12, u13, u14, u15, .int .i64 (b : Int), .bool up, .pointer (some ⟨g18, 0, none⟩), .pointer (some ⟨g19, 0, none⟩), .pointer (some ⟨g, 0, none⟩), u21, u22, u23, u24, u25, u26, u27, u28, u29, u30, u31, u32, u33, u34, u35, u36, u37, u38, u39, u40, u41, u42, u43, u44, u45, u46, u47, u48, u49, u50, u51, u52, u53, u54, u55, u56, u57, u58, u59, u60, u61, u62, u63, u64, u65, u66, u67, u68, u69, u70, u71, u72, u73, u74, u75, u76, u77, u78, u79, u80, u81, u82, u83, u84, u85, u86, u87, u88, u89, u90, u91, u92, u93, u94, u95, u96, u97, u98, u99, u100, u101, u102, u103, u104, u105, u106, u107, u108, u109, u110, u111, u112, u113, u114, u115, u116, u117, u118, u119, u120, u121, u122, u123, u124, u125, u126, u127, u128, x129, x130, x131, x132, x133, x134, x135, x136, x137, x138, x139, x140, x141, x142, x143, u144, u145, u146, u147, u148, u149, u150, u151, u152, u153, u154, u155, u156, u157, u158, u159, u160, u161, u162, u163, u164, u165, u166, u167, u168, u169, u170, u171, u172, u173, u174, u175, u176, u177, u178, u179, u180, u181, u182, u183, u184, u185, u186, u187, u188, u189], []⟩ W') :
  (regC Try.f57 24).wp Try.prog (Only K) ⟨#[.pointer (some ⟨p, 0, none⟩), u1, u2, u3, u4, u5, u6, u7, u8, u9, u10, u11, u12, u13, u14, u15, .int .i64 (b : Int), .bool up, .pointer (some ⟨g18, 0, none⟩), .pointer (some ⟨g19, 0, none⟩), u20, u21, u22, u23, u24, u25, u26, u27, u28, u29, u30, u31, u32, u33, u34, u35, u36, u37, u38, u39, u40, u41, u42, u43, u44, u45, u46, u47, u48, u49, u50, u51, u52, u53, u54, u55, u56, u57, u58, u59, u60, u61, u62, u63, u64, u65, u66, u67, u68, u69, u70, u71, u72, u73, u74, u75, u76, u77, u78, u79, u80, u81, u82, u83, u84, u85, u86, u87, u88, u89, u90, u91, u92, u93, u94, u95, u96, u97, u98, u99, u100, u101, u102, u103, u104, u105, u106, u107, u108, u109, u110, u111, u112, u113, u114, u115, u116, u117, u118, u119, u120, u121, u122, u123, u124, u125, u126, u127, u128, u129, u130, u131, u132, u133, u134, u135, u136, u137, u138, u139, u140, u141, u142, u143, u144, u145, u146, u147, u148, u149, u150, u151, u152, u153, u154, u155, u156, u157, u158, u159, u160, u161, u162, u163, u164, u165, u166, u167, u168, u169, u170, u171, u172, u173, u174, u175, u176, u177, u178, u179, u180, u181, u182, u183, u184, u185, u186, u187, u188, u189], []⟩ W := by
 rw [show regC Try.f57 24 = _ from by (simp only [regC, Try.f57, findC, Nat.reduceEqDiff, if_true, if_false, Option.getD]; rfl)]
 have hKK := hK
 clear hK
 have KP := Lib.hid (fun (W' : World) (hB : Below W.heap.size W W') => (show W'.cell? ⟨p, 3, none⟩ = some (.slice (some ⟨now, 0, none⟩) N N) ∧ W'.cell? ⟨g18, 0, none⟩ = some (.bool true) ∧ W'.cell? ⟨g18, 1, none⟩ = some (.bool M12.s) ∧ W'.cell? ⟨g18, 2, none⟩ = some (.slice M12.a M12.n M12.c) ∧ W'.cell? ⟨g18, 3, none⟩ = some (.slice M12.b M12.m M12.d) ∧ W'.cell? ⟨g18, 4, none⟩ = some (.bool S12.s) ∧ W'.cell? ⟨g18, 5, none⟩ = some (.slice S12.a S12.n S12.c) ∧ W'.cell? ⟨g18, 6, none⟩ = some (.slice S12.b S12.m S12.d) ∧ W'.cell? ⟨now, b * 6, none⟩ = some (.bool M.s) ∧ W'.cell? ⟨now, b * 6 + 1, none⟩ = some (.slice M.a M.n M.c) ∧ W'.cell? ⟨now, b * 6 + 2, none⟩ = some (.slice M.b M.m M.d) ∧ W'.cell? ⟨now, b * 6 + 3, none⟩ = some (.bool S.s) ∧ W'.cell? ⟨now, b * 6 + 4, none⟩ = some (.slice S.a S.n S.c) ∧ W'.cell? ⟨now, b * 6 + 5, none⟩ = some (.slice S.b S.m S.d) ∧ W'.cell? ⟨g19, 0, none⟩ = some (.bool N'.s) ∧ W'.cell? ⟨g19, 1, none⟩ = some (.slice N'.a N'.n N'.c) ∧ W'.cell? ⟨g19, 2, none⟩ = some (.slice N'.b N'.m N'.d) from ⟨cell_later hB (Nat.le_refl _) q3, cell_later hB (Nat.le_refl _) b0_, cell_later hB (Nat.le_refl _) b1_, cell_later hB (Nat.le_refl _) b2_, cell_later hB (Nat.le_refl _) b3_, cell_later hB (Nat.le_refl _) b4_, cell_later hB (Nat.le_refl _) b5_, cell_later hB (Nat.le_refl _) b6_, cell_later hB (Nat.le_refl _) c0_, cell_later hB (Nat.le_refl _) c1_, cell_later hB (Nat.le_refl _) c2_, cell_later hB (Nat.le_refl _) c3_, cell_later hB (Nat.le_refl _) c4_, cell_later hB (Nat.le_refl _) c5_, cell_later hB (Nat.le_refl _) d0_, cell_later hB (Nat.le_refl _) d1_, cell_later hB (Nat.le_refl _) d2_⟩))
 have VZ := Lib.hid (vdist_sz (up := up) SU SN)
 have IZ := Lib.hid (Sz.inv SA AN)
 have b00_ : (0 : Int) ≤ (b : Int) := by omega
 have b01_ : (b : Int) < (N : Int) := by omega
 refine Rg.wpD_start 16 [] (fun W' => W'.cell? ⟨p, 3, none⟩ = some (.slice (some ⟨now, 0, none⟩) N N) ∧ W'.cell? ⟨g18, 0, none⟩ = some (.bool true) ∧ W'.cell? ⟨g18, 1, none⟩ = some (.bool M12.s) ∧ W'.cell? ⟨g18, 2, none⟩ = some (.slice M12.a M12.n M12.c) ∧ W'.cell? ⟨g18, 3, none⟩ = some (.slice M12.b M12.m M12.d) ∧ W'.cell? ⟨g18, 4, none⟩ = some (.bool S12.s) ∧ W'.cell? ⟨g18, 5, none⟩ = some (.slice S12.a S12.n S12.c) ∧ W'.cell? ⟨g18, 6, none⟩ = some (.slice S12.b S12.m S12.d) ∧ W'.cell? ⟨now, b * 6, none⟩ = some (.bool M.s) ∧ W'.cell? ⟨now, b * 6 + 1, none⟩ = some (.slice M.a M.n M.c) ∧ W'.cell? ⟨now, b * 6 + 2, none⟩ = some (.slice M.b M.m M.d) ∧ W'.cell? ⟨now, b * 6 + 3, none⟩ = some (.bool S.s) ∧ W'.cell? ⟨now, b * 6 + 4, none⟩ = some (.slice S.a S.n S.c) ∧ W'.cell? ⟨now, b * 6 + 5, none⟩ = some (.slice S.b S.m S.d) ∧ W'.cell? ⟨g19, 0, none⟩ = some (.bool N'.s) ∧ W'.cell? ⟨g19, 1, none⟩ = some (.slice N'.a N'.n N'.c) ∧ W'.cell? ⟨g19, 2, none⟩ = some (.slice N'.b N'.m N'.d)) (by kernel_rfl) (by kernel_rfl) ?_ (fun hS ok inv => ?_)
 ·exact ⟨q3, b0_, b1_, b2_, b3_, b4_, b5_, b6_, c0_, c1_, c2_, c3_, c4_, c5_, d0_, d1_, d2_⟩
 refine Rg.tk 0 rfl ok inv hS fun inv => ?_
 refine Rg.tk 1 rfl ok inv hS fun inv => ?_
 refine Rg.tk 2 rfl ok inv hS fun inv => ?_
 refine Rg.tk 3 rfl ok inv hS fun inv => ?_
 refine Rg.tk 4 rfl ok inv hS fun inv => ?_
 refine Rg.tk 5 rfl ok inv hS fun inv => ?_
 refine Rg.tk 6 rfl ok inv hS fun inv => ?_
 refine Rg.tk 7 rfl ok inv hS fun inv => ?_
 refine Rg.tk 8 rfl ok inv hS fun inv => ?_
 refine Rg.tk 9 rfl ok inv hS fun inv => ?_
 refine Rg.tk 12 rfl ok inv hS fun inv => ?_
 have BC : Below W.heap.size W W.drew := (Below.refl _ _).drew
 generalize W.drew = c0 at *
 refine Rg.w2 10 15 rfl rfl inv (fun K' hK => ?_) fun K' hK => ?_
 ·(try simp only [zA, zB, zC])
  go_simp
  go_at_call 72
  refine (vdist_any (up := up) (RAt.below ru.1 BC) (RAt.below ru.2 BC) (RAt.below rn.1 BC) (RAt.below rn.2 BC) (Sz.mono SU.1 (by omega)) (Sz.mono SU.2 (by omega)) (Sz.mono SN.1 (by omega)) (Sz.mono SN.2 (by omega))).mono ?_
  rintro e w10 ⟨M10, S10, rfl, L1, L2, B⟩
  have D1 := And.intro L1 L2
  have BC := Below.over BC BC.size B
  have KS := KP.out w10 BC
  refine Rg.st hK ?_ fun hS inv => ?_
  ·exact KS
  clear hK K'
  refine Rg.w2 11 15 rfl rfl inv (fun K' hK => ?_) fun K' hK => ?_
  ·(try simp only [zA, zB, zC])
   go_simp
   go_at_call 19
   refine (rint_any 1 (by omega) (by omega) _).mono ?_
   rintro e w11 ⟨s11, a11, n11, c11, b11, m11, d11, rfl, L1, B⟩
   have D2 := L1
   have D1 := And.intro (RAt.below D1.1 B) (RAt.below D1.2 B)
   have BC := Below.over BC BC.size B
   have KS := KP.out w11 BC
   refine Rg.st hK ?_ fun hS inv => ?_
   ·exact KS
   clear hK K'
   refine Rg.w2 13 15 rfl rfl inv (fun K' hK => ?_) fun K' hK => ?_
   ·(try simp only [zA, zB, zC])
    go_simp
    go_at_call 52
    refine (rdiv_any D2 (RAt.below rT BC) (Sz.mono Sz.one (by omega)) (Sz.mono SA (by omega)) AN).mono ?_
    rintro e w13 ⟨s13, a13, n13, c13, b13, m13, d13, rfl, L1, B⟩
    have D3 := L1
    have D1 := And.intro (RAt.below D1.1 B) (RAt.below D1.2 B)
    have BC := Below.over BC BC.size B
    have KS := KP.out w13 BC
    refine Rg.st hK ?_ fun hS inv => ?_
    ·exact KS
    clear hK K'
    refine Rg.w2 14 15 rfl rfl inv (fun K' hK => ?_) fun K' hK => ?_
    ·(try simp only [zA, zB, zC])
     go_simp
     go_at_call 51
     refine (vtimes_any (x := vdist u nb up) (q := 1 / q) (M' := ⟨s13, a13, n13, c13, b13, m13, d13⟩) D1.1 D1.2 D3 (Sz.mono VZ.out.1 (by omega)) (Sz.mono VZ.out.2 (by omega)) (Sz.mono IZ.out (by omega))).mono ?_
     rintro e w14 ⟨M14, S14, rfl, L1, L2, B⟩
     have D4 := And.intro L1 L2
     have BC := Below.over BC BC.size B
     have KS := KP.out w14 BC
     refine Rg.st hK ?_ fun hS inv => ?_
     ·exact KS
     clear hK K'
     refine Rg.w1 15 rfl inv fun K' hK => ?_
     have BN : Below W.heap.size W (w14.alloc (.cells #[.bool false, .slice none 0 0, .slice none 0 0, .bool false, .slice none 0 0, .slice none 0 0] 76)) := Below.over BC BC.size (below_new _ _)
     (try simp only [zA, zB, zC])
     go_simp
     refine Rg.st hK ?_ fun hS inv => ?_
     ·exact KP.out _ BN
     clear hK K'
     refine Rg.wl rfl ?_
     go_simp
     have BF : Below W.heap.size W (w14.alloc (.cells #[.bool M14.s, .slice M14.a M14.n M14.c, .slice M14.b M14.m M14.d, .bool S14.s, .slice S14.a S14.n S14.c, .slice S14.b S14.m S14.d] 76)) := Below.over BC BC.size (below_new _ _)
     exact hKK _ M14 S14 _ _ _ _ _ _ _ _ _ _ _ _ _ _ _ _ (heap_alloc_new _ _) (RAt.below D4.1 (below_new _ _)) (RAt.below D4.2 (below_new _ _)) BF
    ·have BN : Below W.heap.size W (w13.alloc (.cells #[.bool false, .slice none 0 0, .slice none 0 0, .bool false, .slice none 0 0, .slice none 0 0] 76)) := Below.over BC BC.size (below_new _ _)
     (try simp only [zA, zB, zC])
     go_simp
     refine Rg.st hK ?_ fun hS inv => ?_
     ·exact KP.out _ BN
     clear hK K'
     have GE : Hid (W.heap.size ≤ w13.heap.size) := BC.size
     have XG : VB (w13.alloc (.cells #[.bool false, .slice none 0 0, .slice none 0 0, .bool false, .slice none 0 0, .slice none 0 0] 76)) w13.heap.size Nw.zero Nw.zero := heap_alloc_new _ _
     have D1 := And.intro (RAt.below D1.1 (below_new w13 (.cells #[.bool false, .slice none 0 0, .slice none 0 0, .bool false, .slice none 0 0, .slice none 0 0] 76))) (RAt.below D1.2 (below_new w13 (.cells #[.bool false, .slice none 0 0, .slice none 0 0, .bool false, .slice none 0 0, .slice none 0 0] 76)))
     have D3 := RAt.below D3 (below_new w13 (.cells #[.bool false, .slice none 0 0, .slice none 0 0, .bool false, .slice none 0 0, .slice none 0 0] 76))
     have BC := BN
     generalize hq : w13.alloc (.cells #[.bool false, .slice none 0 0, .slice none 0 0, .bool false, .slice none 0 0, .slice none 0 0] 76) = a3 at *
     generalize w13.heap.size = ga_ at *
     clear hq
     refine Rg.w1 14 rfl inv fun K' hK => ?_
     (try simp only [zA, zB, zC])
     go_simp
     go_at_call 51
     refine (vtimes_any (x := vdist u nb up) (q := 1 / q) (M' := ⟨s13, a13, n13, c13, b13, m13, d13⟩) D1.1 D1.2 D3 (Sz.mono VZ.out.1 (by omega)) (Sz.mono VZ.out.2 (by omega)) (Sz.mono IZ.out (by omega))).mono ?_
     rintro e w14 ⟨M14, S14, rfl, L1, L2, B⟩
     have D4 := And.intro L1 L2
     have XG := XG.later B XG.lt
     have BC := Below.over BC BC.size B
     have KS := KP.out w14 BC
     refine Rg.st hK ?_ fun hS inv => ?_
     ·exact KS
     clear hK K'
     obtain ⟨_, _, _, _, _, _, fz⟩ := XG.reads
     have fz0 := fz 0; have fz1 := fz 1; have fz2 := fz 2; have fz3 := fz 3; have fz4 := fz 4; have fz5 := fz 5
     have XG := Lib.hid XG
     clear fz
     refine Rg.wl rfl ?_
     go_simp
     have BF := below_set6 BC GE.out (.bool M14.s) (.slice M14.a M14.n M14.c) (.slice M14.b M14.m M14.d) (.bool S14.s) (.slice S14.a S14.n S14.c) (.slice S14.b S14.m S14.d)
     have LF := XG.out.limb6 M14 S14
     have XF := XG.out.set6 M14 S14
     have R1 := RA.limb D4.1 LF
     have R2 := RA.limb D4.2 LF
     exact hKK _ M14 S14 _ _ _ _ _ _ _ _ _ _ _ _ _ _ _ _ XF R1 R2 BF
   ·have BN : Below W.heap.size W (w11.alloc (.cells #[.bool false, .slice none 0 0, .slice none 0 0, .bool false, .slice none 0 0, .slice none 0 0] 76)) := Below.over BC BC.size (below_new _ _)
    (try simp only [zA, zB, zC])
    go_simp
    refine Rg.st hK ?_ fun hS inv => ?_
    ·exact KP.out _ BN
    clear hK K'
    have GE : Hid (W.heap.size ≤ w11.heap.size) := BC.size
    have XG : VB (w11.alloc (.cells #[.bool false, .slice none 0 0, .slice none 0 0, .bool false, .slice none 0 0, .slice none 0 0] 76)) w11.heap.size Nw.zero Nw.zero := heap_alloc_new _ _
    have D1 := And.intro (RAt.below D1.1 (below_new w11 (.cells #[.bool false, .slice none 0 0, .slice none 0 0, .bool false, .slice none 0 0, .slice none 0 0] 76))) (RAt.below D1.2 (below_new w11 (.cells #[.bool false, .slice none 0 0, .slice none 0 0, .bool false, .slice none 0 0, .slice none 0 0] 76)))
    have D2 := RAt.below D2 (below_new w11 (.cells #[.bool false, .slice none 0 0, .slice none 0 0, .bool false, .slice none 0 0, .slice none 0 0] 76))
    have BC := BN
    generalize hq : w11.alloc (.cells #[.bool false, .slice none 0 0, .slice none 0 0, .bool false, .slice none 0 0, .slice none 0 0] 76) = a2 at *
    generalize w11.heap.size = ga_ at *
    clear hq
    refine Rg.w1 13 rfl inv fun K' hK => ?_
    (try simp only [zA, zB, zC])
    go_simp
    go_at_call 52
    refine (rdiv_any D2 (RAt.below rT BC) (Sz.mono Sz.one (by omega)) (Sz.mono SA (by omega)) AN).mono ?_
    rintro e w13 ⟨s13, a13, n13, c13, b13, m13, d13, rfl, L1, B⟩
    have D3 := L1
    have D1 := And.intro (RAt.below D1.1 B) (RAt.below D1.2 B)
    have XG := XG.later B XG.lt
    have BC := Below.over BC BC.size B
    have KS := KP.out w13 BC
    refine Rg.st hK ?_ fun hS inv => ?_
    ·exact KS
    clear hK K'
    refine Rg.w1 14 rfl inv fun K' hK => ?_
    (try simp only [zA, zB, zC])
    go_simp
    go_at_call 51
    refine (vtimes_any (x := vdist u nb up) (q := 1 / q) (M' := ⟨s13, a13, n13, c13, b13, m13, d13⟩) D1.1 D1.2 D3 (Sz.mono VZ.out.1 (by omega)) (Sz.mono VZ.out.2 (by omega)) (Sz.mono IZ.out (by omega))).mono ?_
    rintro e w14 ⟨M14, S14, rfl, L1, L2, B⟩
    have D4 := And.intro L1 L2
    have XG := XG.later B XG.lt
    have BC := Below.over BC BC.size B
    have KS := KP.out w14 BC
    refine Rg.st hK ?_ fun hS inv => ?_
    ·exact KS
    clear hK K'
    obtain ⟨_, _, _, _, _, _, fz⟩ := XG.reads
    have fz0 := fz 0; have fz1 := fz 1; have fz2 := fz 2; have fz3 := fz 3; have fz4 := fz 4; have fz5 := fz 5
    have XG := Lib.hid XG
    clear fz
    refine Rg.wl rfl ?_
    go_simp
    have BF := below_set6 BC GE.out (.bool M14.s) (.slice M14.a M14.n M14.c) (.slice M14.b M14.m M14.d) (.bool S14.s) (.slice S14.a S14.n S14.c) (.slice S14.b S14.m S14.d)
    have LF := XG.out.limb6 M14 S14
    have XF := XG.out.set6 M14 S14
    have R1 := RA.limb D4.1 LF
    have R2 := RA.limb D4.2 LF
    exact hKK _ M14 S14 _ _ _ _ _ _ _ _ _ _ _ _ _ _ _ _ XF R1 R2 BF
  ·have BN : Below W.heap.size W (w10.alloc (.cells #[.bool false, .slice none 0 0, .slice none 0 0, .bool false, .slice none 0 0, .slice none 0 0] 76)) := Below.over BC BC.size (below_new _ _)
   (try simp only [zA, zB, zC])
   go_simp
   refine Rg.st hK ?_ fun hS inv => ?_
   ·exact KP.out _ BN
   clear hK K'
   have GE : Hid (W.heap.size ≤ w10.heap.size) := BC.size
   have XG : VB (w10.alloc (.cells #[.bool false, .slice none 0 0, .slice none 0 0, .bool false, .slice none 0 0, .slice none 0 0] 76)) w10.heap.size Nw.zero Nw.zero := heap_alloc_new _ _
   have D1 := And.intro (RAt.below D1.1 (below_new w10 (.cells #[.bool false, .slice none 0 0, .slice none 0 0, .bool false, .slice none 0 0, .slice none 0 0] 76))) (RAt.below D1.2 (below_new w10 (.cells #[.bool false, .slice none 0 0, .slice none 0 0, .bool false, .slice none 0 0, .slice none 0 0] 76)))
   have BC := BN
   generalize hq : w10.alloc (.cells #[.bool false, .slice none 0 0, .slice none 0 0, .bool false, .slice none 0 0, .slice none 0 0] 76) = a1 at *
   generalize w10.heap.size = ga_ at *
   clear hq
   refine Rg.w1 11 rfl inv fun K' hK => ?_
   (try simp only [zA, zB, zC])
   go_simp
   go_at_call 19
   refine (rint_any 1 (by omega) (by omega) _).mono ?_
   rintro e w11 ⟨s11, a11, n11, c11, b11, m11, d11, rfl, L1, B⟩
   have D2 := L1
   have D1 := And.intro (RAt.below D1.1 B) (RAt.below D1.2 B)
   have XG := XG.later B XG.lt
   have BC := Below.over BC BC.size B
   have KS := KP.out w11 BC
   refine Rg.st hK ?_ fun hS inv => ?_
   ·exact KS
   clear hK K'
   refine Rg.w1 13 rfl inv fun K' hK => ?_
   (try simp only [zA, zB, zC])
   go_simp
   go_at_call 52
   refine (rdiv_any D2 (RAt.below rT BC) (Sz.mono Sz.one (by omega)) (Sz.mono SA (by omega)) AN).mono ?_
   rintro e w13 ⟨s13, a13, n13, c13, b13, m13, d13, rfl, L1, B⟩
   have D3 := L1
   have D1 := And.intro (RAt.below D1.1 B) (RAt.below D1.2 B)
   have XG := XG.later B XG.lt
   have BC := Below.over BC BC.size B
   have KS := KP.out w13 BC
   refine Rg.st hK ?_ fun hS inv => ?_
   ·exact KS
   clear hK K'
   refine Rg.w1 14 rfl inv fun K' hK => ?_
   (try simp only [zA, zB, zC])
   go_simp
   go_at_call 51
   refine (vtimes_any (x := vdist u nb up) (q := 1 / q) (M' := ⟨s13, a13, n13, c13, b13, m13, d13⟩) D1.1 D1.2 D3 (Sz.mono VZ.out.1 (by omega)) (Sz.mono VZ.out.2 (by omega)) (Sz.mono IZ.out (by omega))).mono ?_
   rintro e w14 ⟨M14, S14, rfl, L1, L2, B⟩
   have D4 := And.intro L1 L2
   have XG := XG.later B XG.lt
   have BC := Below.over BC BC.size B
   have KS := KP.out w14 BC
   refine Rg.st hK ?_ fun hS inv => ?_
   ·exact KS
   clear hK K'
   obtain ⟨_, _, _, _, _, _, fz⟩ := XG.reads
   have fz0 := fz 0; have fz1 := fz 1; have fz2 := fz 2; have fz3 := fz 3; have fz4 := fz 4; have fz5 := fz 5
   have XG := Lib.hid XG
   clear fz
   refine Rg.wl rfl ?_
   go_simp
   have BF := below_set6 BC GE.out (.bool M14.s) (.slice M14.a M14.n M14.c) (.slice M14.b M14.m M14.d) (.bool S14.s) (.slice S14.a S14.n S14.c) (.slice S14.b S14.m S14.d)
   have LF := XG.out.limb6 M14 S14
   have XF := XG.out.set6 M14 S14
   have R1 := RA.limb D4.1 LF
   have R2 := RA.limb D4.2 LF
   exact hKK _ M14 S14 _ _ _ _ _ _ _ _ _ _ _ _ _ _ _ _ XF R1 R2 BF
 ·have BN : Below W.heap.size W (c0.alloc (.cells #[.bool false, .slice none 0 0, .slice none 0 0, .bool false, .slice none 0 0, .slice none 0 0] 76)) := Below.over BC BC.size (below_new _ _)
  (try simp only [zA, zB, zC])
  go_simp
  refine Rg.st hK ?_ fun hS inv => ?_
  ·exact KP.out _ BN
  clear hK K'
  have GE : Hid (W.heap.size ≤ c0.heap.size) := BC.size
  have XG : VB (c0.alloc (.cells #[.bool false, .slice none 0 0, .slice none 0 0, .bool false, .slice none 0 0, .slice none 0 0] 76)) c0.heap.size Nw.zero Nw.zero := heap_alloc_new _ _
  have BC := BN
  generalize hq : c0.alloc (.cells #[.bool false, .slice none 0 0, .slice none 0 0, .bool false, .slice none 0 0, .slice none 0 0] 76) = a0 at *
  generalize c0.heap.size = ga_ at *
  clear hq
  refine Rg.w1 10 rfl inv fun K' hK => ?_
  (try simp only [zA, zB, zC])
  go_simp
  go_at_call 72
  refine (vdist_any (up := up) (RAt.below ru.1 BC) (RAt.below ru.2 BC) (RAt.below rn.1 BC) (RAt.below rn.2 BC) (Sz.mono SU.1 (by omega)) (Sz.mono SU.2 (by omega)) (Sz.mono SN.1 (by omega)) (Sz.mono SN.2 (by omega))).mono ?_
  rintro e w10 ⟨M10, S10, rfl, L1, L2, B⟩
  have D1 := And.intro L1 L2
  have XG := XG.later B XG.lt
  have BC := Below.over BC BC.size B
  have KS := KP.out w10 BC
  refine Rg.st hK ?_ fun hS inv => ?_
  ·exact KS
  clear hK K'
  refine Rg.w1 11 rfl inv fun K' hK => ?_
  (try simp only [zA, zB, zC])
  go_simp
  go_at_call 19
  refine (rint_any 1 (by omega) (by omega) _).mono ?_
  rintro e w11 ⟨s11, a11, n11, c11, b11, m11, d11, rfl, L1, B⟩
  have D2 := L1
  have D1 := And.intro (RAt.below D1.1 B) (RAt.below D1.2 B)
  have XG := XG.later B XG.lt
  have BC := Below.over BC BC.size B
  have KS := KP.out w11 BC
  refine Rg.st hK ?_ fun hS inv => ?_
  ·exact KS
  clear hK K'
  refine Rg.w1 13 rfl inv fun K' hK => ?_
  (try simp only [zA, zB, zC])
  go_simp
  go_at_call 52
  refine (rdiv_any D2 (RAt.below rT BC) (Sz.mono Sz.one (by omega)) (Sz.mono SA (by omega)) AN).mono ?_
  rintro e w13 ⟨s13, a13, n13, c13, b13, m13, d13, rfl, L1, B⟩
  have D3 := L1
  have D1 := And.intro (RAt.below D1.1 B) (RAt.below D1.2 B)
  have XG := XG.later B XG.lt
  have BC := Below.over BC BC.size B
  have KS := KP.out w13 BC
  refine Rg.st hK ?_ fun hS inv => ?_
  ·exact KS
  clear hK K'
  refine Rg.w1 14 rfl inv fun K' hK => ?_
  (try simp only [zA, zB, zC])
  go_simp
  go_at_call 51
  refine (vtimes_any (x := vdist u nb up) (q := 1 / q) (M' := ⟨s13, a13, n13, c13, b13, m13, d13⟩) D1.1 D1.2 D3 (Sz.mono VZ.out.1 (by omega)) (Sz.mono VZ.out.2 (by omega)) (Sz.mono IZ.out (by omega))).mono ?_
  rintro e w14 ⟨M14, S14, rfl, L1, L2, B⟩
  have D4 := And.intro L1 L2
  have XG := XG.later B XG.lt
  have BC := Below.over BC BC.size B
  have KS := KP.out w14 BC
  refine Rg.st hK ?_ fun hS inv => ?_
  ·exact KS
  clear hK K'
  obtain ⟨_, _, _, _, _, _, fz⟩ := XG.reads
  have fz0 := fz 0; have fz1 := fz 1; have fz2 := fz 2; have fz3 := fz 3; have fz4 := fz 4; have fz5 := fz 5
  have XG := Lib.hid XG
  clear fz
  refine Rg.wl rfl ?_
  go_simp
  have BF := below_set6 BC GE.out (.bool M14.s) (.slice M14.a M14.n M14.c) (.slice M14.b M14.m M14.d) (.bool S14.s) (.slice S14.a S14.n S14.c) (.slice S14.b S14.m S14.d)
  have LF := XG.out.limb6 M14 S14
  have XF := XG.out.set6 M14 S14
  have R1 := RA.limb D4.1 LF
  have R2 := RA.limb D4.2 LF
  exact hKK _ M14 S14 _ _ _ _ _ _ _ _ _ _ _ _ _ _ _ _ XF R1 R2 BF
end Go.Proofs.Ytijdglogadnbcaa
