/- Regions of lp.New. Printed by genMe.py. -/
import Derived.Test.YtijdglogadnbcaaZ29
set_option linter.unusedVariables false
set_option linter.unusedSimpArgs false
set_option maxRecDepth 100000
set_option maxHeartbeats 40000000
namespace Go.Proofs.Ytijdglogadnbcaa
open Go.RowKit Nt Bl
theorem new_r19 {n0 b p gl_ nn : Nat} {W : World} {Z : PtL} (hP : Pt n0 W Z) (hp : Z.p = p) (hgl : Z.line Z.it = gl_) (hnn : Z.n = nn) (hb : b = Z.n + Z.ib) (eb : Z.hb = Z.bv) (et : Z.ht = Z.tv) (hn0 : n0 ≤ W.heap.size) (i60 : Z.ib ≤ 1000) (j60 : Z.it ≤ 1000) {K : Act → World → Prop} {u0 u1 u2 u3 u4 u5 u6 u7 u9 u10 u11 u12 u14 u15 u17 u18 u19 u20 u21 u22 u23 u24 u25 u26 u27 u28 u29 u30 u31 u32 u33 u34 u35 u36 u37 u38 u39 u40 u41 u42 u43 u44 u45 u46 u47 u48 u49 u50 u51 u52 u53 u54 u55 u56 u57 u58 u59 u60 u61 u62 u63 u64 u65 u66 u67 u68 u69 u70 u71 u72 u73 u74 u75 u76 u77 u78 u79 u80 u81 u82 u83 u84 u85 u86 u87 u88 u89 u90 u91 u92 u93 u94 u95 u96 u97 u98 u99 u100 u101 u102 u103 u104 u105 u106 u107 u108 u109 u110 u111 u112 u113 u114 u115 u116 u117 u118 u119 u120 u121 u122 u123 u124 u125 u126 u127 u128 u129 u130 u131 u132 u133 u134 u135 u136 u137 u138 u139 u140 u141 u142 u143 u144 u145 u146 u147 u148 u149 u150 u151 u152 u153 u154 u155 u156 : Value}
  (hK : ∀ (bv' tv' : Value) (x84 x85 x86 x87 x88 x89 x90 x91 x92 x93 x94 x95 x96 x97 x98 x99 x100 x101 x102 x103 : Value) (W' : World), Pt n0 W' { Z with hb := bv', bv := bv', ib := Z.ib + 1, ht := tv', tv := tv', it := Z.it + 1 } → Below n0 W W' → (∀ b ty, Blk W b ty → ty ≠ 3 → ty ≠ 59 → ty ≠ 98 → W'.heap[b]? = W.heap[b]?) → K ⟨#[u0, u1, u2, u3, u4, u5, u6, u7, .pointer (some ⟨p, 0, none⟩), u9, u10, u11, u12, .slice (some ⟨gl_, 0, none⟩) nn nn, u14, u15, .int .i64 (b : Int), u17, u18, u19, u20, u21, u22, u23, u24, u25, u26, u27, u28, u29, u30, u31, u32, u33, u34, u35, u36, u37, u38, u39, u40, u41, u42, u43, u44, u45, u46, u47, u48, u49, u50, u51, u52, u53, u54, u55, u56, u57, u58, u59, u60, u61, u62, u63, u64, u65, u66, u67, u68, u69, u70, u71, u72, u73, u74, u75, u76, u77, u78, u79, u80, u81, u82, u83, x84, x85, x86, x87, x88, x89, x90, x91, x92, x93, x94, x95, x96, x97, x98, x99, x100, x101, x102, x103, u104, u105, u106, u107, u108, u109, u110, u111, u112, u113, u114, u115, u116, u117, u118, u119, u120, u121, u122, u123, u124, u125, u126, u127, u128, u129, u130, u131, u132, u133, u134, u135, u136, u137, u138, u139, u140, u141, u142, u143, u144, u145, u146, u147, u148, u149, u150, u151, u152, u153, u154, u155, u156], []⟩ W') :
  (regC Try.f28 19).wp Try.prog (Only K) ⟨#[u0, u1, u2, u3, u4, u5, u6, u7, .pointer (some ⟨p, 0, none⟩), u9, u10, u11, u12, .slice (some ⟨gl_, 0, none⟩) nn nn, u14, u15, .int .i64 (b : Int), u17, u18, u19, u20, u21, u22, u23, u24, u25, u26, u27, u28, u29, u30, u31, u32, u33, u34, u35, u36, u37, u38, u39, u40, u41, u42, u43, u44, u45, u46, u47, u48, u49, u50, u51, u52, u53, u54, u55, u56, u57, u58, u59, u60, u61, u62, u63, u64, u65, u66, u67, u68, u69, u70, u71, u72, u73, u74, u75, u76, u77, u78, u79, u80, u81, u82, u83, u84, u85, u86, u87, u88, u89, u90, u91, u92, u93, u94, u95, u96, u97, u98, u99, u100, u101, u102, u103, u104, u105, u106, u107, u108, u109, u110, u111, u112, u113, u114, u115, u116, u117, u118, u119, u120, u121, u122, u123, u124, u125, u126, u127, u128, u129, u130, u131, u132, u133, u134, u135, u136, u137, u138, u139, u140, u141, u142, u143, u144, u145, u146, u147, u148, u149, u150, u151, u152, u153, u154, u155, u156], []⟩ W := by
 obtain ⟨i3, hi3, hz30, hz31, hz32⟩ := info_parts info3
 obtain ⟨i8, hi8, hz80, hz81, hz82⟩ := info_parts info83
 subst hp hgl hnn
 rw [show regC Try.f28 19 = _ from by (simp only [regC, Try.f28, findC, Nat.reduceEqDiff, if_true, if_false, Option.getD]; rfl)]
 have SC : S19 n0 W W.drew Z := S19.later ⟨hP, Below.refl _ _, Nat.le_refl _, fun _ _ _ _ _ => rfl⟩ hn0 (Below.refl _ _).drew
 have OB := hP.bo; have OT := hP.to_
 have NB := OB.nuv; have NT := OT.nuv
 have q6 := hP.head.2.2.2.2.2.2.1
 rw [et] at q6
 have HB := Lib.hid hb
 clear hb
 have hKK := hK
 clear hK
 refine Rg.wpD_start 21 [] (fun W' => W'.cell? ⟨Z.p, 6, none⟩ = some Z.tv) (by kernel_rfl) (by kernel_rfl) ?_ (fun hS ok inv => ?_)
 ·exact q6
 refine Rg.tk 0 rfl ok inv hS fun inv => ?_
 refine Rg.tk 1 rfl ok inv hS fun inv => ?_
 refine Rg.tk 2 rfl ok inv hS fun inv => ?_
 refine Rg.tk 3 rfl ok inv hS fun inv => ?_
 refine Rg.tk 4 rfl ok inv hS fun inv => ?_
 refine Rg.tk 6 rfl ok inv hS fun inv => ?_
 refine Rg.tk 9 rfl ok inv hS fun inv => ?_
 refine Rg.tk 10 rfl ok inv hS fun inv => ?_
 refine Rg.tk 11 rfl ok inv hS fun inv => ?_
 refine Rg.tk 12 rfl ok inv hS fun inv => ?_
 refine Rg.tk 13 rfl ok inv hS fun inv => ?_
 generalize W.drew = c0 at *
 refine Rg.wpD_three (k := 5) (l := 7) (m := 14) (by kernel_rfl) rfl rfl rfl (by decide) (by decide) (by decide) inv (by rfl) (by rfl) (by rfl) (fun K' hK => ?_) (fun K' hK => ?_) (fun K' hK => ?_)
 ·have h4 : c0.cell? ⟨Z.p, 4, none⟩ = some Z.bv := SC.pt.head.2.2.2.2.1.trans (congrArg some eb)
  (try simp only [zA, zB, zC])
  go_simp
  refine Rg.st hK ?_ fun hS inv => ?_
  ·exact (by have := SC.pt.head.2.2.2.2.2.2.1; exact this.trans (congrArg some et))
  clear hK K'
  refine Rg.w2 7 14 rfl rfl inv (fun K' hK => ?_) fun K' hK => ?_
  ·have NBX := below_new c0 (.cells #[.int .i64 (b : Int)] 3)
   have SC := SC.later hn0 NBX
   have F7 : (c0.alloc (.cells #[.int .i64 (b : Int)] 3)).heap[c0.heap.size]? = some (.cells #[.int .i64 (b : Int)] 3 (0, 0)) := heap_alloc_new _ _
   (try simp only [zA, zB, zC])
   go_simp
   refine Rg.st hK ?_ fun hS inv => ?_
   ·exact (by have := SC.pt.head.2.2.2.2.2.2.1; exact this.trans (congrArg some et))
   clear hK K'
   generalize hc1 : c0.alloc (.cells #[.int .i64 (b : Int)] 3) = c1 at *
   generalize c0.heap.size = g7_ at *
   clear hc1 NBX
   refine Rg.w2 8 14 rfl rfl inv (fun K' hK => ?_) fun K' hK => ?_
   ·(try simp only [zA, zB, zC])
    refine wp_append_ow _ _ 62 (by rfl) n0 3 i3 (.int .i64 0) 1 8 Try.underlying62 hi3 hz30 hz31 hz32 rfl (by omega) (by intro u hu; simp [Value.cells] at hu; subst hu; exact nu_int _) Z.bv Z.ib (ints Z.n Z.ib) (by go_simp) SC.pt.bo ⟨g7_, 0, none⟩ 1 1 [.int .i64 (b : Int)] (by go_simp) rfl (World.news_of_block F7) (by intro u hu; simp at hu; subst hu; rfl) (by intro u hu; simp at hu; subst hu; exact nu_int _) (by unfold maxLen; omega) (by omega) (Nat.le_trans hn0 SC.sz) ?_
    intro bv' c2 O G far
    rw [HB.out, ← ints_succ] at O
    have SC := SC.appB hn0 O G far
    clear O G far F7
    refine Rg.st hK ?_ fun hS inv => ?_
    ·exact (by have := SC.pt.head.2.2.2.2.2.2.1; exact this.trans (congrArg some et))
    clear hK K'
    refine Rg.w1 14 rfl inv fun K' hK => ?_
    have NBX := below_new c2 (.cells #[.slice (some ⟨Z.line Z.it, 0, none⟩) Z.n Z.n] 59)
    have SC := SC.later hn0 NBX
    have F14 : (c2.alloc (.cells #[.slice (some ⟨Z.line Z.it, 0, none⟩) Z.n Z.n] 59)).heap[c2.heap.size]? = some (.cells #[.slice (some ⟨Z.line Z.it, 0, none⟩) Z.n Z.n] 59 (0, 0)) := heap_alloc_new _ _
    (try simp only [zA, zB, zC])
    go_simp
    refine Rg.st hK ?_ fun hS inv => ?_
    ·exact (by have := SC.pt.head.2.2.2.2.2.2.1; exact this.trans (congrArg some et))
    clear hK K'
    generalize hc3 : c2.alloc (.cells #[.slice (some ⟨Z.line Z.it, 0, none⟩) Z.n Z.n] 59) = c3 at *
    generalize c2.heap.size = g14_ at *
    clear hc3 NBX
    refine Rg.w1 15 rfl inv fun K' hK => ?_
    (try simp only [zA, zB, zC])
    refine wp_append_ow _ _ 96 (by rfl) n0 59 i8 (.slice none 0 0) 1 24 Try.underlying96 hi8 hz80 hz81 hz82 rfl (by omega) (by intro u hu; simp [Value.cells] at hu; subst hu; exact nu_slice _ _ _) Z.tv Z.it (lnV Z.line Z.n Z.it) (by go_simp) SC.pt.to_ ⟨g14_, 0, none⟩ 1 1 [.slice (some ⟨Z.line Z.it, 0, none⟩) Z.n Z.n] (by go_simp) rfl (World.news_of_block F14) (by intro u hu; simp at hu; subst hu; rfl) (by intro u hu; simp at hu; subst hu; exact nu_slice _ _ _) (by unfold maxLen; omega) (by omega) (Nat.le_trans hn0 SC.sz) ?_
    intro tv' c4 O G far
    rw [← lnV_succ] at O
    have SC := SC.appT hn0 O G
    clear O G far F14
    refine Rg.st hK ?_ fun hS inv => ?_
    ·exact (by have := SC.pt.head.2.2.2.2.2.2.1; exact this.trans (congrArg some et))
    clear hK K'
    refine Rg.tk 16 rfl ok inv hS fun inv => ?_
    refine Rg.tk 17 rfl ok inv hS fun inv => ?_
    have OO : Ow c4 n0 3 1 bv' (Z.ib + 1) (ints Z.n (Z.ib + 1)) := SC.pt.bo
    obtain ⟨gb_, cb_, eb_, _⟩ := OO.some (Nat.succ_pos _)
    have O3 : Ow c4 n0 59 1 tv' (Z.it + 1) (lnV Z.line Z.n (Z.it + 1)) := SC.pt.to_
    obtain ⟨gt_, ct_, et_, _⟩ := O3.some (Nat.succ_pos _)
    subst eb_ et_
    have P1 := SC.pt.setB (v := (.slice (some ⟨gb_, 0, none⟩) (Z.ib + 1) cb_)) (show Nu Z.hb by rw [eb]; exact NB)
    have h4 := SC.pt.head.2.2.2.2.1
    have f4 := SC.pt.head.2.2.2.2.2.2.2 4
    have s6 : (c4.setCell ⟨Z.p, 4, none⟩ (.slice (some ⟨gb_, 0, none⟩) (Z.ib + 1) cb_)).cell? ⟨Z.p, 6, none⟩ = some Z.tv := P1.head.2.2.2.2.2.2.1.trans (congrArg some et)
    have f6 : (c4.setCell ⟨Z.p, 4, none⟩ (.slice (some ⟨gb_, 0, none⟩) (Z.ib + 1) cb_)).frozen? ⟨Z.p, 6, none⟩ = false := P1.head.2.2.2.2.2.2.2 6
    refine Rg.w1 18 rfl inv fun K' hK => ?_
    (try simp only [zA, zB, zC])
    go_simp
    refine Rg.st hK ?_ fun hS inv => ?_
    ·exact s6
    clear hK K'
    refine Rg.tk 19 rfl ok inv hS fun inv => ?_
    refine Rg.tk 20 rfl ok inv hS fun inv => ?_
    have P2 := P1.setT (v := (.slice (some ⟨gt_, 0, none⟩) (Z.it + 1) ct_)) (show Nu Z.ht by rw [et]; exact NT)
    have B2 : Below n0 W ((c4.setCell ⟨Z.p, 4, none⟩ (.slice (some ⟨gb_, 0, none⟩) (Z.ib + 1) cb_)).setCell ⟨Z.p, 6, none⟩ (.slice (some ⟨gt_, 0, none⟩) (Z.it + 1) ct_)) := (SC.bl.setCell hP.ge.1 _).setCell hP.ge.1 _
    have O2 : ∀ b ty, Blk W b ty → ty ≠ 3 → ty ≠ 59 → ty ≠ 98 → ((c4.setCell ⟨Z.p, 4, none⟩ (.slice (some ⟨gb_, 0, none⟩) (Z.ib + 1) cb_)).setCell ⟨Z.p, 6, none⟩ (.slice (some ⟨gt_, 0, none⟩) (Z.it + 1) ct_)).heap[b]? = W.heap[b]? := fun b ty q h1 h2 h3 => by
     have ne : b ≠ Z.p := q.ne hP.pb h3
     rw [heap_setCell_other _ _ _ _ ne, heap_setCell_other _ _ _ _ ne]
     exact SC.ot b ty q h1 h2
    refine Rg.wl rfl ?_
    go_simp
    exact hKK _ _ _ _ _ _ _ _ _ _ _ _ _ _ _ _ _ _ _ _ _ _ _ P2 B2 O2
   ·have NBX := below_new c1 (.cells #[.slice (some ⟨Z.line Z.it, 0, none⟩) Z.n Z.n] 59)
    have SC := SC.later hn0 NBX
    have F14 : (c1.alloc (.cells #[.slice (some ⟨Z.line Z.it, 0, none⟩) Z.n Z.n] 59)).heap[c1.heap.size]? = some (.cells #[.slice (some ⟨Z.line Z.it, 0, none⟩) Z.n Z.n] 59 (0, 0)) := heap_alloc_new _ _
    have F7 := (NBX.block _ (Array.getElem?_eq_some_iff.1 F7).1).trans F7
    (try simp only [zA, zB, zC])
    go_simp
    refine Rg.st hK ?_ fun hS inv => ?_
    ·exact (by have := SC.pt.head.2.2.2.2.2.2.1; exact this.trans (congrArg some et))
    clear hK K'
    generalize hc2 : c1.alloc (.cells #[.slice (some ⟨Z.line Z.it, 0, none⟩) Z.n Z.n] 59) = c2 at *
    generalize c1.heap.size = g14_ at *
    clear hc2 NBX
    refine Rg.w1 8 rfl inv fun K' hK => ?_
    (try simp only [zA, zB, zC])
    refine wp_append_ow _ _ 62 (by rfl) n0 3 i3 (.int .i64 0) 1 8 Try.underlying62 hi3 hz30 hz31 hz32 rfl (by omega) (by intro u hu; simp [Value.cells] at hu; subst hu; exact nu_int _) Z.bv Z.ib (ints Z.n Z.ib) (by go_simp) SC.pt.bo ⟨g7_, 0, none⟩ 1 1 [.int .i64 (b : Int)] (by go_simp) rfl (World.news_of_block F7) (by intro u hu; simp at hu; subst hu; rfl) (by intro u hu; simp at hu; subst hu; exact nu_int _) (by unfold maxLen; omega) (by omega) (Nat.le_trans hn0 SC.sz) ?_
    intro bv' c3 O G far
    rw [HB.out, ← ints_succ] at O
    have F14 := (Pt.oth SC.pt.bo G ⟨_, F14⟩ (by decide)).trans F14
    have SC := SC.appB hn0 O G far
    clear O G far F7
    refine Rg.st hK ?_ fun hS inv => ?_
    ·exact (by have := SC.pt.head.2.2.2.2.2.2.1; exact this.trans (congrArg some et))
    clear hK K'
    refine Rg.w1 15 rfl inv fun K' hK => ?_
    (try simp only [zA, zB, zC])
    refine wp_append_ow _ _ 96 (by rfl) n0 59 i8 (.slice none 0 0) 1 24 Try.underlying96 hi8 hz80 hz81 hz82 rfl (by omega) (by intro u hu; simp [Value.cells] at hu; subst hu; exact nu_slice _ _ _) Z.tv Z.it (lnV Z.line Z.n Z.it) (by go_simp) SC.pt.to_ ⟨g14_, 0, none⟩ 1 1 [.slice (some ⟨Z.line Z.it, 0, none⟩) Z.n Z.n] (by go_simp) rfl (World.news_of_block F14) (by intro u hu; simp at hu; subst hu; rfl) (by intro u hu; simp at hu; subst hu; exact nu_slice _ _ _) (by unfold maxLen; omega) (by omega) (Nat.le_trans hn0 SC.sz) ?_
    intro tv' c4 O G far
    rw [← lnV_succ] at O
    have SC := SC.appT hn0 O G
    clear O G far F14
    refine Rg.st hK ?_ fun hS inv => ?_
    ·exact (by have := SC.pt.head.2.2.2.2.2.2.1; exact this.trans (congrArg some et))
    clear hK K'
    refine Rg.tk 16 rfl ok inv hS fun inv => ?_
    refine Rg.tk 17 rfl ok inv hS fun inv => ?_
    have OO : Ow c4 n0 3 1 bv' (Z.ib + 1) (ints Z.n (Z.ib + 1)) := SC.pt.bo
    obtain ⟨gb_, cb_, eb_, _⟩ := OO.some (Nat.succ_pos _)
    have O3 : Ow c4 n0 59 1 tv' (Z.it + 1) (lnV Z.line Z.n (Z.it + 1)) := SC.pt.to_
    obtain ⟨gt_, ct_, et_, _⟩ := O3.some (Nat.succ_pos _)
    subst eb_ et_
    have P1 := SC.pt.setB (v := (.slice (some ⟨gb_, 0, none⟩) (Z.ib + 1) cb_)) (show Nu Z.hb by rw [eb]; exact NB)
    have h4 := SC.pt.head.2.2.2.2.1
    have f4 := SC.pt.head.2.2.2.2.2.2.2 4
    have s6 : (c4.setCell ⟨Z.p, 4, none⟩ (.slice (some ⟨gb_, 0, none⟩) (Z.ib + 1) cb_)).cell? ⟨Z.p, 6, none⟩ = some Z.tv := P1.head.2.2.2.2.2.2.1.trans (congrArg some et)
    have f6 : (c4.setCell ⟨Z.p, 4, none⟩ (.slice (some ⟨gb_, 0, none⟩) (Z.ib + 1) cb_)).frozen? ⟨Z.p, 6, none⟩ = false := P1.head.2.2.2.2.2.2.2 6
    refine Rg.w1 18 rfl inv fun K' hK => ?_
    (try simp only [zA, zB, zC])
    go_simp
    refine Rg.st hK ?_ fun hS inv => ?_
    ·exact s6
    clear hK K'
    refine Rg.tk 19 rfl ok inv hS fun inv => ?_
    refine Rg.tk 20 rfl ok inv hS fun inv => ?_
    have P2 := P1.setT (v := (.slice (some ⟨gt_, 0, none⟩) (Z.it + 1) ct_)) (show Nu Z.ht by rw [et]; exact NT)
    have B2 : Below n0 W ((c4.setCell ⟨Z.p, 4, none⟩ (.slice (some ⟨gb_, 0, none⟩) (Z.ib + 1) cb_)).setCell ⟨Z.p, 6, none⟩ (.slice (some ⟨gt_, 0, none⟩) (Z.it + 1) ct_)) := (SC.bl.setCell hP.ge.1 _).setCell hP.ge.1 _
    have O2 : ∀ b ty, Blk W b ty → ty ≠ 3 → ty ≠ 59 → ty ≠ 98 → ((c4.setCell ⟨Z.p, 4, none⟩ (.slice (some ⟨gb_, 0, none⟩) (Z.ib + 1) cb_)).setCell ⟨Z.p, 6, none⟩ (.slice (some ⟨gt_, 0, none⟩) (Z.it + 1) ct_)).heap[b]? = W.heap[b]? := fun b ty q h1 h2 h3 => by
     have ne : b ≠ Z.p := q.ne hP.pb h3
     rw [heap_setCell_other _ _ _ _ ne, heap_setCell_other _ _ _ _ ne]
     exact SC.ot b ty q h1 h2
    refine Rg.wl rfl ?_
    go_simp
    exact hKK _ _ _ _ _ _ _ _ _ _ _ _ _ _ _ _ _ _ _ _ _ _ _ P2 B2 O2
  ·have NBX := below_new c0 (.cells #[.slice (some ⟨Z.line Z.it, 0, none⟩) Z.n Z.n] 59)
   have SC := SC.later hn0 NBX
   have F14 : (c0.alloc (.cells #[.slice (some ⟨Z.line Z.it, 0, none⟩) Z.n Z.n] 59)).heap[c0.heap.size]? = some (.cells #[.slice (some ⟨Z.line Z.it, 0, none⟩) Z.n Z.n] 59 (0, 0)) := heap_alloc_new _ _
   (try simp only [zA, zB, zC])
   go_simp
   refine Rg.st hK ?_ fun hS inv => ?_
   ·exact (by have := SC.pt.head.2.2.2.2.2.2.1; exact this.trans (congrArg some et))
   clear hK K'
   generalize hc1 : c0.alloc (.cells #[.slice (some ⟨Z.line Z.it, 0, none⟩) Z.n Z.n] 59) = c1 at *
   generalize c0.heap.size = g14_ at *
   clear hc1 NBX
   refine Rg.w1 7 rfl inv fun K' hK => ?_
   have NBX := below_new c1 (.cells #[.int .i64 (b : Int)] 3)
   have SC := SC.later hn0 NBX
   have F7 : (c1.alloc (.cells #[.int .i64 (b : Int)] 3)).heap[c1.heap.size]? = some (.cells #[.int .i64 (b : Int)] 3 (0, 0)) := heap_alloc_new _ _
   have F14 := (NBX.block _ (Array.getElem?_eq_some_iff.1 F14).1).trans F14
   (try simp only [zA, zB, zC])
   go_simp
   refine Rg.st hK ?_ fun hS inv => ?_
   ·exact (by have := SC.pt.head.2.2.2.2.2.2.1; exact this.trans (congrArg some et))
   clear hK K'
   generalize hc2 : c1.alloc (.cells #[.int .i64 (b : Int)] 3) = c2 at *
   generalize c1.heap.size = g7_ at *
   clear hc2 NBX
   refine Rg.w1 8 rfl inv fun K' hK => ?_
   (try simp only [zA, zB, zC])
   refine wp_append_ow _ _ 62 (by rfl) n0 3 i3 (.int .i64 0) 1 8 Try.underlying62 hi3 hz30 hz31 hz32 rfl (by omega) (by intro u hu; simp [Value.cells] at hu; subst hu; exact nu_int _) Z.bv Z.ib (ints Z.n Z.ib) (by go_simp) SC.pt.bo ⟨g7_, 0, none⟩ 1 1 [.int .i64 (b : Int)] (by go_simp) rfl (World.news_of_block F7) (by intro u hu; simp at hu; subst hu; rfl) (by intro u hu; simp at hu; subst hu; exact nu_int _) (by unfold maxLen; omega) (by omega) (Nat.le_trans hn0 SC.sz) ?_
   intro bv' c3 O G far
   rw [HB.out, ← ints_succ] at O
   have F14 := (Pt.oth SC.pt.bo G ⟨_, F14⟩ (by decide)).trans F14
   have SC := SC.appB hn0 O G far
   clear O G far F7
   refine Rg.st hK ?_ fun hS inv => ?_
   ·exact (by have := SC.pt.head.2.2.2.2.2.2.1; exact this.trans (congrArg some et))
   clear hK K'
   refine Rg.w1 15 rfl inv fun K' hK => ?_
   (try simp only [zA, zB, zC])
   refine wp_append_ow _ _ 96 (by rfl) n0 59 i8 (.slice none 0 0) 1 24 Try.underlying96 hi8 hz80 hz81 hz82 rfl (by omega) (by intro u hu; simp [Value.cells] at hu; subst hu; exact nu_slice _ _ _) Z.tv Z.it (lnV Z.line Z.n Z.it) (by go_simp) SC.pt.to_ ⟨g14_, 0, none⟩ 1 1 [.slice (some ⟨Z.line Z.it, 0, none⟩) Z.n Z.n] (by go_simp) rfl (World.news_of_block F14) (by intro u hu; simp at hu; subst hu; rfl) (by intro u hu; simp at hu; subst hu; exact nu_slice _ _ _) (by unfold maxLen; omega) (by omega) (Nat.le_trans hn0 SC.sz) ?_
   intro tv' c4 O G far
   rw [← lnV_succ] at O
   have SC := SC.appT hn0 O G
   clear O G far F14
   refine Rg.st hK ?_ fun hS inv => ?_
   ·exact (by have := SC.pt.head.2.2.2.2.2.2.1; exact this.trans (congrArg some et))
   clear hK K'
   refine Rg.tk 16 rfl ok inv hS fun inv => ?_
   refine Rg.tk 17 rfl ok inv hS fun inv => ?_
   have OO : Ow c4 n0 3 1 bv' (Z.ib + 1) (ints Z.n (Z.ib + 1)) := SC.pt.bo
   obtain ⟨gb_, cb_, eb_, _⟩ := OO.some (Nat.succ_pos _)
   have O3 : Ow c4 n0 59 1 tv' (Z.it + 1) (lnV Z.line Z.n (Z.it + 1)) := SC.pt.to_
   obtain ⟨gt_, ct_, et_, _⟩ := O3.some (Nat.succ_pos _)
   subst eb_ et_
   have P1 := SC.pt.setB (v := (.slice (some ⟨gb_, 0, none⟩) (Z.ib + 1) cb_)) (show Nu Z.hb by rw [eb]; exact NB)
   have h4 := SC.pt.head.2.2.2.2.1
   have f4 := SC.pt.head.2.2.2.2.2.2.2 4
   have s6 : (c4.setCell ⟨Z.p, 4, none⟩ (.slice (some ⟨gb_, 0, none⟩) (Z.ib + 1) cb_)).cell? ⟨Z.p, 6, none⟩ = some Z.tv := P1.head.2.2.2.2.2.2.1.trans (congrArg some et)
   have f6 : (c4.setCell ⟨Z.p, 4, none⟩ (.slice (some ⟨gb_, 0, none⟩) (Z.ib + 1) cb_)).frozen? ⟨Z.p, 6, none⟩ = false := P1.head.2.2.2.2.2.2.2 6
   refine Rg.w1 18 rfl inv fun K' hK => ?_
   (try simp only [zA, zB, zC])
   go_simp
   refine Rg.st hK ?_ fun hS inv => ?_
   ·exact s6
   clear hK K'
   refine Rg.tk 19 rfl ok inv hS fun inv => ?_
   refine Rg.tk 20 rfl ok inv hS fun inv => ?_
   have P2 := P1.setT (v := (.slice (some ⟨gt_, 0, none⟩) (Z.it + 1) ct_)) (show Nu Z.ht by rw [et]; exact NT)
   have B2 : Below n0 W ((c4.setCell ⟨Z.p, 4, none⟩ (.slice (some ⟨gb_, 0, none⟩) (Z.ib + 1) cb_)).setCell ⟨Z.p, 6, none⟩ (.slice (some ⟨gt_, 0, none⟩) (Z.it + 1) ct_)) := (SC.bl.setCell hP.ge.1 _).setCell hP.ge.1 _
   have O2 : ∀ b ty, Blk W b ty → ty ≠ 3 → ty ≠ 59 → ty ≠ 98 → ((c4.setCell ⟨Z.p, 4, none⟩ (.slice (some ⟨gb_, 0, none⟩) (Z.ib + 1) cb_)).setCell ⟨Z.p, 6, none⟩ (.slice (some ⟨gt_, 0, none⟩) (Z.it + 1) ct_)).heap[b]? = W.heap[b]? := fun b ty q h1 h2 h3 => by
    have ne : b ≠ Z.p := q.ne hP.pb h3
    rw [heap_setCell_other _ _ _ _ ne, heap_setCell_other _ _ _ _ ne]
    exact SC.ot b ty q h1 h2
   refine Rg.wl rfl ?_
   go_simp
   exact hKK _ _ _ _ _ _ _ _ _ _ _ _ _ _ _ _ _ _ _ _ _ _ _ P2 B2 O2
 ·have NBX := below_new c0 (.cells #[.int .i64 (b : Int)] 3)
  have SC := SC.later hn0 NBX
  have F7 : (c0.alloc (.cells #[.int .i64 (b : Int)] 3)).heap[c0.heap.size]? = some (.cells #[.int .i64 (b : Int)] 3 (0, 0)) := heap_alloc_new _ _
  (try simp only [zA, zB, zC])
  go_simp
  refine Rg.st hK ?_ fun hS inv => ?_
  ·exact (by have := SC.pt.head.2.2.2.2.2.2.1; exact this.trans (congrArg some et))
  clear hK K'
  generalize hc1 : c0.alloc (.cells #[.int .i64 (b : Int)] 3) = c1 at *
  generalize c0.heap.size = g7_ at *
  clear hc1 NBX
  refine Rg.w2 5 14 rfl rfl inv (fun K' hK => ?_) fun K' hK => ?_
  ·have h4 : c1.cell? ⟨Z.p, 4, none⟩ = some Z.bv := SC.pt.head.2.2.2.2.1.trans (congrArg some eb)
   (try simp only [zA, zB, zC])
   go_simp
   refine Rg.st hK ?_ fun hS inv => ?_
   ·exact (by have := SC.pt.head.2.2.2.2.2.2.1; exact this.trans (congrArg some et))
   clear hK K'
   refine Rg.w2 8 14 rfl rfl inv (fun K' hK => ?_) fun K' hK => ?_
   ·(try simp only [zA, zB, zC])
    refine wp_append_ow _ _ 62 (by rfl) n0 3 i3 (.int .i64 0) 1 8 Try.underlying62 hi3 hz30 hz31 hz32 rfl (by omega) (by intro u hu; simp [Value.cells] at hu; subst hu; exact nu_int _) Z.bv Z.ib (ints Z.n Z.ib) (by go_simp) SC.pt.bo ⟨g7_, 0, none⟩ 1 1 [.int .i64 (b : Int)] (by go_simp) rfl (World.news_of_block F7) (by intro u hu; simp at hu; subst hu; rfl) (by intro u hu; simp at hu; subst hu; exact nu_int _) (by unfold maxLen; omega) (by omega) (Nat.le_trans hn0 SC.sz) ?_
    intro bv' c2 O G far
    rw [HB.out, ← ints_succ] at O
    have SC := SC.appB hn0 O G far
    clear O G far F7
    refine Rg.st hK ?_ fun hS inv => ?_
    ·exact (by have := SC.pt.head.2.2.2.2.2.2.1; exact this.trans (congrArg some et))
    clear hK K'
    refine Rg.w1 14 rfl inv fun K' hK => ?_
    have NBX := below_new c2 (.cells #[.slice (some ⟨Z.line Z.it, 0, none⟩) Z.n Z.n] 59)
    have SC := SC.later hn0 NBX
    have F14 : (c2.alloc (.cells #[.slice (some ⟨Z.line Z.it, 0, none⟩) Z.n Z.n] 59)).heap[c2.heap.size]? = some (.cells #[.slice (some ⟨Z.line Z.it, 0, none⟩) Z.n Z.n] 59 (0, 0)) := heap_alloc_new _ _
    (try simp only [zA, zB, zC])
    go_simp
    refine Rg.st hK ?_ fun hS inv => ?_
    ·exact (by have := SC.pt.head.2.2.2.2.2.2.1; exact this.trans (congrArg some et))
    clear hK K'
    generalize hc3 : c2.alloc (.cells #[.slice (some ⟨Z.line Z.it, 0, none⟩) Z.n Z.n] 59) = c3 at *
    generalize c2.heap.size = g14_ at *
    clear hc3 NBX
    refine Rg.w1 15 rfl inv fun K' hK => ?_
    (try simp only [zA, zB, zC])
    refine wp_append_ow _ _ 96 (by rfl) n0 59 i8 (.slice none 0 0) 1 24 Try.underlying96 hi8 hz80 hz81 hz82 rfl (by omega) (by intro u hu; simp [Value.cells] at hu; subst hu; exact nu_slice _ _ _) Z.tv Z.it (lnV Z.line Z.n Z.it) (by go_simp) SC.pt.to_ ⟨g14_, 0, none⟩ 1 1 [.slice (some ⟨Z.line Z.it, 0, none⟩) Z.n Z.n] (by go_simp) rfl (World.news_of_block F14) (by intro u hu; simp at hu; subst hu; rfl) (by intro u hu; simp at hu; subst hu; exact nu_slice _ _ _) (by unfold maxLen; omega) (by omega) (Nat.le_trans hn0 SC.sz) ?_
    intro tv' c4 O G far
    rw [← lnV_succ] at O
    have SC := SC.appT hn0 O G
    clear O G far F14
    refine Rg.st hK ?_ fun hS inv => ?_
    ·exact (by have := SC.pt.head.2.2.2.2.2.2.1; exact this.trans (congrArg some et))
    clear hK K'
    refine Rg.tk 16 rfl ok inv hS fun inv => ?_
    refine Rg.tk 17 rfl ok inv hS fun inv => ?_
    have OO : Ow c4 n0 3 1 bv' (Z.ib + 1) (ints Z.n (Z.ib + 1)) := SC.pt.bo
    obtain ⟨gb_, cb_, eb_, _⟩ := OO.some (Nat.succ_pos _)
    have O3 : Ow c4 n0 59 1 tv' (Z.it + 1) (lnV Z.line Z.n (Z.it + 1)) := SC.pt.to_
    obtain ⟨gt_, ct_, et_, _⟩ := O3.some (Nat.succ_pos _)
    subst eb_ et_
    have P1 := SC.pt.setB (v := (.slice (some ⟨gb_, 0, none⟩) (Z.ib + 1) cb_)) (show Nu Z.hb by rw [eb]; exact NB)
    have h4 := SC.pt.head.2.2.2.2.1
    have f4 := SC.pt.head.2.2.2.2.2.2.2 4
    have s6 : (c4.setCell ⟨Z.p, 4, none⟩ (.slice (some ⟨gb_, 0, none⟩) (Z.ib + 1) cb_)).cell? ⟨Z.p, 6, none⟩ = some Z.tv := P1.head.2.2.2.2.2.2.1.trans (congrArg some et)
    have f6 : (c4.setCell ⟨Z.p, 4, none⟩ (.slice (some ⟨gb_, 0, none⟩) (Z.ib + 1) cb_)).frozen? ⟨Z.p, 6, none⟩ = false := P1.head.2.2.2.2.2.2.2 6
    refine Rg.w1 18 rfl inv fun K' hK => ?_
    (try simp only [zA, zB, zC])
    go_simp
    refine Rg.st hK ?_ fun hS inv => ?_
    ·exact s6
    clear hK K'
    refine Rg.tk 19 rfl ok inv hS fun inv => ?_
    refine Rg.tk 20 rfl ok inv hS fun inv => ?_
    have P2 := P1.setT (v := (.slice (some ⟨gt_, 0, none⟩) (Z.it + 1) ct_)) (show Nu Z.ht by rw [et]; exact NT)
    have B2 : Below n0 W ((c4.setCell ⟨Z.p, 4, none⟩ (.slice (some ⟨gb_, 0, none⟩) (Z.ib + 1) cb_)).setCell ⟨Z.p, 6, none⟩ (.slice (some ⟨gt_, 0, none⟩) (Z.it + 1) ct_)) := (SC.bl.setCell hP.ge.1 _).setCell hP.ge.1 _
    have O2 : ∀ b ty, Blk W b ty → ty ≠ 3 → ty ≠ 59 → ty ≠ 98 → ((c4.setCell ⟨Z.p, 4, none⟩ (.slice (some ⟨gb_, 0, none⟩) (Z.ib + 1) cb_)).setCell ⟨Z.p, 6, none⟩ (.slice (some ⟨gt_, 0, none⟩) (Z.it + 1) ct_)).heap[b]? = W.heap[b]? := fun b ty q h1 h2 h3 => by
     have ne : b ≠ Z.p := q.ne hP.pb h3
     rw [heap_setCell_other _ _ _ _ ne, heap_setCell_other _ _ _ _ ne]
     exact SC.ot b ty q h1 h2
    refine Rg.wl rfl ?_
    go_simp
    exact hKK _ _ _ _ _ _ _ _ _ _ _ _ _ _ _ _ _ _ _ _ _ _ _ P2 B2 O2
   ·have NBX := below_new c1 (.cells #[.slice (some ⟨Z.line Z.it, 0, none⟩) Z.n Z.n] 59)
    have SC := SC.later hn0 NBX
    have F14 : (c1.alloc (.cells #[.slice (some ⟨Z.line Z.it, 0, none⟩) Z.n Z.n] 59)).heap[c1.heap.size]? = some (.cells #[.slice (some ⟨Z.line Z.it, 0, none⟩) Z.n Z.n] 59 (0, 0)) := heap_alloc_new _ _
    have F7 := (NBX.block _ (Array.getElem?_eq_some_iff.1 F7).1).trans F7
    (try simp only [zA, zB, zC])
    go_simp
    refine Rg.st hK ?_ fun hS inv => ?_
    ·exact (by have := SC.pt.head.2.2.2.2.2.2.1; exact this.trans (congrArg some et))
    clear hK K'
    generalize hc2 : c1.alloc (.cells #[.slice (some ⟨Z.line Z.it, 0, none⟩) Z.n Z.n] 59) = c2 at *
    generalize c1.heap.size = g14_ at *
    clear hc2 NBX
    refine Rg.w1 8 rfl inv fun K' hK => ?_
    (try simp only [zA, zB, zC])
    refine wp_append_ow _ _ 62 (by rfl) n0 3 i3 (.int .i64 0) 1 8 Try.underlying62 hi3 hz30 hz31 hz32 rfl (by omega) (by intro u hu; simp [Value.cells] at hu; subst hu; exact nu_int _) Z.bv Z.ib (ints Z.n Z.ib) (by go_simp) SC.pt.bo ⟨g7_, 0, none⟩ 1 1 [.int .i64 (b : Int)] (by go_simp) rfl (World.news_of_block F7) (by intro u hu; simp at hu; subst hu; rfl) (by intro u hu; simp at hu; subst hu; exact nu_int _) (by unfold maxLen; omega) (by omega) (Nat.le_trans hn0 SC.sz) ?_
    intro bv' c3 O G far
    rw [HB.out, ← ints_succ] at O
    have F14 := (Pt.oth SC.pt.bo G ⟨_, F14⟩ (by decide)).trans F14
    have SC := SC.appB hn0 O G far
    clear O G far F7
    refine Rg.st hK ?_ fun hS inv => ?_
    ·exact (by have := SC.pt.head.2.2.2.2.2.2.1; exact this.trans (congrArg some et))
    clear hK K'
    refine Rg.w1 15 rfl inv fun K' hK => ?_
    (try simp only [zA, zB, zC])
    refine wp_append_ow _ _ 96 (by rfl) n0 59 i8 (.slice none 0 0) 1 24 Try.underlying96 hi8 hz80 hz81 hz82 rfl (by omega) (by intro u hu; simp [Value.cells] at hu; subst hu; exact nu_slice _ _ _) Z.tv Z.it (lnV Z.line Z.n Z.it) (by go_simp) SC.pt.to_ ⟨g14_, 0, none⟩ 1 1 [.slice (some ⟨Z.line Z.it, 0, none⟩) Z.n Z.n] (by go_simp) rfl (World.news_of_block F14) (by intro u hu; simp at hu; subst hu; rfl) (by intro u hu; simp at hu; subst hu; exact nu_slice _ _ _) (by unfold maxLen; omega) (by omega) (Nat.le_trans hn0 SC.sz) ?_
    intro tv' c4 O G far
    rw [← lnV_succ] at O
    have SC := SC.appT hn0 O G
    clear O G far F14
    refine Rg.st hK ?_ fun hS inv => ?_
    ·exact (by have := SC.pt.head.2.2.2.2.2.2.1; exact this.trans (congrArg some et))
    clear hK K'
    refine Rg.tk 16 rfl ok inv hS fun inv => ?_
    refine Rg.tk 17 rfl ok inv hS fun inv => ?_
    have OO : Ow c4 n0 3 1 bv' (Z.ib + 1) (ints Z.n (Z.ib + 1)) := SC.pt.bo
    obtain ⟨gb_, cb_, eb_, _⟩ := OO.some (Nat.succ_pos _)
    have O3 : Ow c4 n0 59 1 tv' (Z.it + 1) (lnV Z.line Z.n (Z.it + 1)) := SC.pt.to_
    obtain ⟨gt_, ct_, et_, _⟩ := O3.some (Nat.succ_pos _)
    subst eb_ et_
    have P1 := SC.pt.setB (v := (.slice (some ⟨gb_, 0, none⟩) (Z.ib + 1) cb_)) (show Nu Z.hb by rw [eb]; exact NB)
    have h4 := SC.pt.head.2.2.2.2.1
    have f4 := SC.pt.head.2.2.2.2.2.2.2 4
    have s6 : (c4.setCell ⟨Z.p, 4, none⟩ (.slice (some ⟨gb_, 0, none⟩) (Z.ib + 1) cb_)).cell? ⟨Z.p, 6, none⟩ = some Z.tv := P1.head.2.2.2.2.2.2.1.trans (congrArg some et)
    have f6 : (c4.setCell ⟨Z.p, 4, none⟩ (.slice (some ⟨gb_, 0, none⟩) (Z.ib + 1) cb_)).frozen? ⟨Z.p, 6, none⟩ = false := P1.head.2.2.2.2.2.2.2 6
    refine Rg.w1 18 rfl inv fun K' hK => ?_
    (try simp only [zA, zB, zC])
    go_simp
    refine Rg.st hK ?_ fun hS inv => ?_
    ·exact s6
    clear hK K'
    refine Rg.tk 19 rfl ok inv hS fun inv => ?_
    refine Rg.tk 20 rfl ok inv hS fun inv => ?_
    have P2 := P1.setT (v := (.slice (some ⟨gt_, 0, none⟩) (Z.it + 1) ct_)) (show Nu Z.ht by rw [et]; exact NT)
    have B2 : Below n0 W ((c4.setCell ⟨Z.p, 4, none⟩ (.slice (some ⟨gb_, 0, none⟩) (Z.ib + 1) cb_)).setCell ⟨Z.p, 6, none⟩ (.slice (some ⟨gt_, 0, none⟩) (Z.it + 1) ct_)) := (SC.bl.setCell hP.ge.1 _).setCell hP.ge.1 _
    have O2 : ∀ b ty, Blk W b ty → ty ≠ 3 → ty ≠ 59 → ty ≠ 98 → ((c4.setCell ⟨Z.p, 4, none⟩ (.slice (some ⟨gb_, 0, none⟩) (Z.ib + 1) cb_)).setCell ⟨Z.p, 6, none⟩ (.slice (some ⟨gt_, 0, none⟩) (Z.it + 1) ct_)).heap[b]? = W.heap[b]? := fun b ty q h1 h2 h3 => by
     have ne : b ≠ Z.p := q.ne hP.pb h3
     rw [heap_setCell_other _ _ _ _ ne, heap_setCell_other _ _ _ _ ne]
     exact SC.ot b ty q h1 h2
    refine Rg.wl rfl ?_
    go_simp
    exact hKK _ _ _ _ _ _ _ _ _ _ _ _ _ _ _ _ _ _ _ _ _ _ _ P2 B2 O2
  ·have NBX := below_new c1 (.cells #[.slice (some ⟨Z.line Z.it, 0, none⟩) Z.n Z.n] 59)
   have SC := SC.later hn0 NBX
   have F14 : (c1.alloc (.cells #[.slice (some ⟨Z.line Z.it, 0, none⟩) Z.n Z.n] 59)).heap[c1.heap.size]? = some (.cells #[.slice (some ⟨Z.line Z.it, 0, none⟩) Z.n Z.n] 59 (0, 0)) := heap_alloc_new _ _
   have F7 := (NBX.block _ (Array.getElem?_eq_some_iff.1 F7).1).trans F7
   (try simp only [zA, zB, zC])
   go_simp
   refine Rg.st hK ?_ fun hS inv => ?_
   ·exact (by have := SC.pt.head.2.2.2.2.2.2.1; exact this.trans (congrArg some et))
   clear hK K'
   generalize hc2 : c1.alloc (.cells #[.slice (some ⟨Z.line Z.it, 0, none⟩) Z.n Z.n] 59) = c2 at *
   generalize c1.heap.size = g14_ at *
   clear hc2 NBX
   refine Rg.w1 5 rfl inv fun K' hK => ?_
   have h4 : c2.cell? ⟨Z.p, 4, none⟩ = some Z.bv := SC.pt.head.2.2.2.2.1.trans (congrArg some eb)
   (try simp only [zA, zB, zC])
   go_simp
   refine Rg.st hK ?_ fun hS inv => ?_
   ·exact (by have := SC.pt.head.2.2.2.2.2.2.1; exact this.trans (congrArg some et))
   clear hK K'
   refine Rg.w1 8 rfl inv fun K' hK => ?_
   (try simp only [zA, zB, zC])
   refine wp_append_ow _ _ 62 (by rfl) n0 3 i3 (.int .i64 0) 1 8 Try.underlying62 hi3 hz30 hz31 hz32 rfl (by omega) (by intro u hu; simp [Value.cells] at hu; subst hu; exact nu_int _) Z.bv Z.ib (ints Z.n Z.ib) (by go_simp) SC.pt.bo ⟨g7_, 0, none⟩ 1 1 [.int .i64 (b : Int)] (by go_simp) rfl (World.news_of_block F7) (by intro u hu; simp at hu; subst hu; rfl) (by intro u hu; simp at hu; subst hu; exact nu_int _) (by unfold maxLen; omega) (by omega) (Nat.le_trans hn0 SC.sz) ?_
   intro bv' c3 O G far
   rw [HB.out, ← ints_succ] at O
   have F14 := (Pt.oth SC.pt.bo G ⟨_, F14⟩ (by decide)).trans F14
   have SC := SC.appB hn0 O G far
   clear O G far F7
   refine Rg.st hK ?_ fun hS inv => ?_
   ·exact (by have := SC.pt.head.2.2.2.2.2.2.1; exact this.trans (congrArg some et))
   clear hK K'
   refine Rg.w1 15 rfl inv fun K' hK => ?_
   (try simp only [zA, zB, zC])
   refine wp_append_ow _ _ 96 (by rfl) n0 59 i8 (.slice none 0 0) 1 24 Try.underlying96 hi8 hz80 hz81 hz82 rfl (by omega) (by intro u hu; simp [Value.cells] at hu; subst hu; exact nu_slice _ _ _) Z.tv Z.it (lnV Z.line Z.n Z.it) (by go_simp) SC.pt.to_ ⟨g14_, 0, none⟩ 1 1 [.slice (some ⟨Z.line Z.it, 0, none⟩) Z.n Z.n] (by go_simp) rfl (World.news_of_block F14) (by intro u hu; simp at hu; subst hu; rfl) (by intro u hu; simp at hu; subst hu; exact nu_slice _ _ _) (by unfold maxLen; omega) (by omega) (Nat.le_trans hn0 SC.sz) ?_
   intro tv' c4 O G far
   rw [← lnV_succ] at O
   have SC := SC.appT hn0 O G
   clear O G far F14
   refine Rg.st hK ?_ fun hS inv => ?_
   ·exact (by have := SC.pt.head.2.2.2.2.2.2.1; exact this.trans (congrArg some et))
   clear hK K'
   refine Rg.tk 16 rfl ok inv hS fun inv => ?_
   refine Rg.tk 17 rfl ok inv hS fun inv => ?_
   have OO : Ow c4 n0 3 1 bv' (Z.ib + 1) (ints Z.n (Z.ib + 1)) := SC.pt.bo
   obtain ⟨gb_, cb_, eb_, _⟩ := OO.some (Nat.succ_pos _)
   have O3 : Ow c4 n0 59 1 tv' (Z.it + 1) (lnV Z.line Z.n (Z.it + 1)) := SC.pt.to_
   obtain ⟨gt_, ct_, et_, _⟩ := O3.some (Nat.succ_pos _)
   subst eb_ et_
   have P1 := SC.pt.setB (v := (.slice (some ⟨gb_, 0, none⟩) (Z.ib + 1) cb_)) (show Nu Z.hb by rw [eb]; exact NB)
   have h4 := SC.pt.head.2.2.2.2.1
   have f4 := SC.pt.head.2.2.2.2.2.2.2 4
   have s6 : (c4.setCell ⟨Z.p, 4, none⟩ (.slice (some ⟨gb_, 0, none⟩) (Z.ib + 1) cb_)).cell? ⟨Z.p, 6, none⟩ = some Z.tv := P1.head.2.2.2.2.2.2.1.trans (congrArg some et)
   have f6 : (c4.setCell ⟨Z.p, 4, none⟩ (.slice (some ⟨gb_, 0, none⟩) (Z.ib + 1) cb_)).frozen? ⟨Z.p, 6, none⟩ = false := P1.head.2.2.2.2.2.2.2 6
   refine Rg.w1 18 rfl inv fun K' hK => ?_
   (try simp only [zA, zB, zC])
   go_simp
   refine Rg.st hK ?_ fun hS inv => ?_
   ·exact s6
   clear hK K'
   refine Rg.tk 19 rfl ok inv hS fun inv => ?_
   refine Rg.tk 20 rfl ok inv hS fun inv => ?_
   have P2 := P1.setT (v := (.slice (some ⟨gt_, 0, none⟩) (Z.it + 1) ct_)) (show Nu Z.ht by rw [et]; exact NT)
   have B2 : Below n0 W ((c4.setCell ⟨Z.p, 4, none⟩ (.slice (some ⟨gb_, 0, none⟩) (Z.ib + 1) cb_)).setCell ⟨Z.p, 6, none⟩ (.slice (some ⟨gt_, 0, none⟩) (Z.it + 1) ct_)) := (SC.bl.setCell hP.ge.1 _).setCell hP.ge.1 _
   have O2 : ∀ b ty, Blk W b ty → ty ≠ 3 → ty ≠ 59 → ty ≠ 98 → ((c4.setCell ⟨Z.p, 4, none⟩ (.slice (some ⟨gb_, 0, none⟩) (Z.ib + 1) cb_)).setCell ⟨Z.p, 6, none⟩ (.slice (some ⟨gt_, 0, none⟩) (Z.it + 1) ct_)).heap[b]? = W.heap[b]? := fun b ty q h1 h2 h3 => by
    have ne : b ≠ Z.p := q.ne hP.pb h3
    rw [heap_setCell_other _ _ _ _ ne, heap_setCell_other _ _ _ _ ne]
    exact SC.ot b ty q h1 h2
   refine Rg.wl rfl ?_
   go_simp
   exact hKK _ _ _ _ _ _ _ _ _ _ _ _ _ _ _ _ _ _ _ _ _ _ _ P2 B2 O2
 ·have NBX := below_new c0 (.cells #[.slice (some ⟨Z.line Z.it, 0, none⟩) Z.n Z.n] 59)
  have SC := SC.later hn0 NBX
  have F14 : (c0.alloc (.cells #[.slice (some ⟨Z.line Z.it, 0, none⟩) Z.n Z.n] 59)).heap[c0.heap.size]? = some (.cells #[.slice (some ⟨Z.line Z.it, 0, none⟩) Z.n Z.n] 59 (0, 0)) := heap_alloc_new _ _
  (try simp only [zA, zB, zC])
  go_simp
  refine Rg.st hK ?_ fun hS inv => ?_
  ·exact (by have := SC.pt.head.2.2.2.2.2.2.1; exact this.trans (congrArg some et))
  clear hK K'
  generalize hc1 : c0.alloc (.cells #[.slice (some ⟨Z.line Z.it, 0, none⟩) Z.n Z.n] 59) = c1 at *
  generalize c0.heap.size = g14_ at *
  clear hc1 NBX
  refine Rg.w2 5 7 rfl rfl inv (fun K' hK => ?_) fun K' hK => ?_
  ·have h4 : c1.cell? ⟨Z.p, 4, none⟩ = some Z.bv := SC.pt.head.2.2.2.2.1.trans (congrArg some eb)
   (try simp only [zA, zB, zC])
   go_simp
   refine Rg.st hK ?_ fun hS inv => ?_
   ·exact (by have := SC.pt.head.2.2.2.2.2.2.1; exact this.trans (congrArg some et))
   clear hK K'
   refine Rg.w1 7 rfl inv fun K' hK => ?_
   have NBX := below_new c1 (.cells #[.int .i64 (b : Int)] 3)
   have SC := SC.later hn0 NBX
   have F7 : (c1.alloc (.cells #[.int .i64 (b : Int)] 3)).heap[c1.heap.size]? = some (.cells #[.int .i64 (b : Int)] 3 (0, 0)) := heap_alloc_new _ _
   have F14 := (NBX.block _ (Array.getElem?_eq_some_iff.1 F14).1).trans F14
   (try simp only [zA, zB, zC])
   go_simp
   refine Rg.st hK ?_ fun hS inv => ?_
   ·exact (by have := SC.pt.head.2.2.2.2.2.2.1; exact this.trans (congrArg some et))
   clear hK K'
   generalize hc2 : c1.alloc (.cells #[.int .i64 (b : Int)] 3) = c2 at *
   generalize c1.heap.size = g7_ at *
   clear hc2 NBX
   refine Rg.w1 8 rfl inv fun K' hK => ?_
   (try simp only [zA, zB, zC])
   refine wp_append_ow _ _ 62 (by rfl) n0 3 i3 (.int .i64 0) 1 8 Try.underlying62 hi3 hz30 hz31 hz32 rfl (by omega) (by intro u hu; simp [Value.cells] at hu; subst hu; exact nu_int _) Z.bv Z.ib (ints Z.n Z.ib) (by go_simp) SC.pt.bo ⟨g7_, 0, none⟩ 1 1 [.int .i64 (b : Int)] (by go_simp) rfl (World.news_of_block F7) (by intro u hu; simp at hu; subst hu; rfl) (by intro u hu; simp at hu; subst hu; exact nu_int _) (by unfold maxLen; omega) (by omega) (Nat.le_trans hn0 SC.sz) ?_
   intro bv' c3 O G far
   rw [HB.out, ← ints_succ] at O
   have F14 := (Pt.oth SC.pt.bo G ⟨_, F14⟩ (by decide)).trans F14
   have SC := SC.appB hn0 O G far
   clear O G far F7
   refine Rg.st hK ?_ fun hS inv => ?_
   ·exact (by have := SC.pt.head.2.2.2.2.2.2.1; exact this.trans (congrArg some et))
   clear hK K'
   refine Rg.w1 15 rfl inv fun K' hK => ?_
   (try simp only [zA, zB, zC])
   refine wp_append_ow _ _ 96 (by rfl) n0 59 i8 (.slice none 0 0) 1 24 Try.underlying96 hi8 hz80 hz81 hz82 rfl (by omega) (by intro u hu; simp [Value.cells] at hu; subst hu; exact nu_slice _ _ _) Z.tv Z.it (lnV Z.line Z.n Z.it) (by go_simp) SC.pt.to_ ⟨g14_, 0, none⟩ 1 1 [.slice (some ⟨Z.line Z.it, 0, none⟩) Z.n Z.n] (by go_simp) rfl (World.news_of_block F14) (by intro u hu; simp at hu; subst hu; rfl) (by intro u hu; simp at hu; subst hu; exact nu_slice _ _ _) (by unfold maxLen; omega) (by omega) (Nat.le_trans hn0 SC.sz) ?_
   intro tv' c4 O G far
   rw [← lnV_succ] at O
   have SC := SC.appT hn0 O G
   clear O G far F14
   refine Rg.st hK ?_ fun hS inv => ?_
   ·exact (by have := SC.pt.head.2.2.2.2.2.2.1; exact this.trans (congrArg some et))
   clear hK K'
   refine Rg.tk 16 rfl ok inv hS fun inv => ?_
   refine Rg.tk 17 rfl ok inv hS fun inv => ?_
   have OO : Ow c4 n0 3 1 bv' (Z.ib + 1) (ints Z.n (Z.ib + 1)) := SC.pt.bo
   obtain ⟨gb_, cb_, eb_, _⟩ := OO.some (Nat.succ_pos _)
   have O3 : Ow c4 n0 59 1 tv' (Z.it + 1) (lnV Z.line Z.n (Z.it + 1)) := SC.pt.to_
   obtain ⟨gt_, ct_, et_, _⟩ := O3.some (Nat.succ_pos _)
   subst eb_ et_
   have P1 := SC.pt.setB (v := (.slice (some ⟨gb_, 0, none⟩) (Z.ib + 1) cb_)) (show Nu Z.hb by rw [eb]; exact NB)
   have h4 := SC.pt.head.2.2.2.2.1
   have f4 := SC.pt.head.2.2.2.2.2.2.2 4
   have s6 : (c4.setCell ⟨Z.p, 4, none⟩ (.slice (some ⟨gb_, 0, none⟩) (Z.ib + 1) cb_)).cell? ⟨Z.p, 6, none⟩ = some Z.tv := P1.head.2.2.2.2.2.2.1.trans (congrArg some et)
   have f6 : (c4.setCell ⟨Z.p, 4, none⟩ (.slice (some ⟨gb_, 0, none⟩) (Z.ib + 1) cb_)).frozen? ⟨Z.p, 6, none⟩ = false := P1.head.2.2.2.2.2.2.2 6
   refine Rg.w1 18 rfl inv fun K' hK => ?_
   (try simp only [zA, zB, zC])
   go_simp
   refine Rg.st hK ?_ fun hS inv => ?_
   ·exact s6
   clear hK K'
   refine Rg.tk 19 rfl ok inv hS fun inv => ?_
   refine Rg.tk 20 rfl ok inv hS fun inv => ?_
   have P2 := P1.setT (v := (.slice (some ⟨gt_, 0, none⟩) (Z.it + 1) ct_)) (show Nu Z.ht by rw [et]; exact NT)
   have B2 : Below n0 W ((c4.setCell ⟨Z.p, 4, none⟩ (.slice (some ⟨gb_, 0, none⟩) (Z.ib + 1) cb_)).setCell ⟨Z.p, 6, none⟩ (.slice (some ⟨gt_, 0, none⟩) (Z.it + 1) ct_)) := (SC.bl.setCell hP.ge.1 _).setCell hP.ge.1 _
   have O2 : ∀ b ty, Blk W b ty → ty ≠ 3 → ty ≠ 59 → ty ≠ 98 → ((c4.setCell ⟨Z.p, 4, none⟩ (.slice (some ⟨gb_, 0, none⟩) (Z.ib + 1) cb_)).setCell ⟨Z.p, 6, none⟩ (.slice (some ⟨gt_, 0, none⟩) (Z.it + 1) ct_)).heap[b]? = W.heap[b]? := fun b ty q h1 h2 h3 => by
    have ne : b ≠ Z.p := q.ne hP.pb h3
    rw [heap_setCell_other _ _ _ _ ne, heap_setCell_other _ _ _ _ ne]
    exact SC.ot b ty q h1 h2
   refine Rg.wl rfl ?_
   go_simp
   exact hKK _ _ _ _ _ _ _ _ _ _ _ _ _ _ _ _ _ _ _ _ _ _ _ P2 B2 O2
  ·have NBX := below_new c1 (.cells #[.int .i64 (b : Int)] 3)
   have SC := SC.later hn0 NBX
   have F7 : (c1.alloc (.cells #[.int .i64 (b : Int)] 3)).heap[c1.heap.size]? = some (.cells #[.int .i64 (b : Int)] 3 (0, 0)) := heap_alloc_new _ _
   have F14 := (NBX.block _ (Array.getElem?_eq_some_iff.1 F14).1).trans F14
   (try simp only [zA, zB, zC])
   go_simp
   refine Rg.st hK ?_ fun hS inv => ?_
   ·exact (by have := SC.pt.head.2.2.2.2.2.2.1; exact this.trans (congrArg some et))
   clear hK K'
   generalize hc2 : c1.alloc (.cells #[.int .i64 (b : Int)] 3) = c2 at *
   generalize c1.heap.size = g7_ at *
   clear hc2 NBX
   refine Rg.w1 5 rfl inv fun K' hK => ?_
   have h4 : c2.cell? ⟨Z.p, 4, none⟩ = some Z.bv := SC.pt.head.2.2.2.2.1.trans (congrArg some eb)
   (try simp only [zA, zB, zC])
   go_simp
   refine Rg.st hK ?_ fun hS inv => ?_
   ·exact (by have := SC.pt.head.2.2.2.2.2.2.1; exact this.trans (congrArg some et))
   clear hK K'
   refine Rg.w1 8 rfl inv fun K' hK => ?_
   (try simp only [zA, zB, zC])
   refine wp_append_ow _ _ 62 (by rfl) n0 3 i3 (.int .i64 0) 1 8 Try.underlying62 hi3 hz30 hz31 hz32 rfl (by omega) (by intro u hu; simp [Value.cells] at hu; subst hu; exact nu_int _) Z.bv Z.ib (ints Z.n Z.ib) (by go_simp) SC.pt.bo ⟨g7_, 0, none⟩ 1 1 [.int .i64 (b : Int)] (by go_simp) rfl (World.news_of_block F7) (by intro u hu; simp at hu; subst hu; rfl) (by intro u hu; simp at hu; subst hu; exact nu_int _) (by unfold maxLen; omega) (by omega) (Nat.le_trans hn0 SC.sz) ?_
   intro bv' c3 O G far
   rw [HB.out, ← ints_succ] at O
   have F14 := (Pt.oth SC.pt.bo G ⟨_, F14⟩ (by decide)).trans F14
   have SC := SC.appB hn0 O G far
   clear O G far F7
   refine Rg.st hK ?_ fun hS inv => ?_
   ·exact (by have := SC.pt.head.2.2.2.2.2.2.1; exact this.trans (congrArg some et))
   clear hK K'
   refine Rg.w1 15 rfl inv fun K' hK => ?_
   (try simp only [zA, zB, zC])
   refine wp_append_ow _ _ 96 (by rfl) n0 59 i8 (.slice none 0 0) 1 24 Try.underlying96 hi8 hz80 hz81 hz82 rfl (by omega) (by intro u hu; simp [Value.cells] at hu; subst hu; exact nu_slice _ _ _) Z.tv Z.it (lnV Z.line Z.n Z.it) (by go_simp) SC.pt.to_ ⟨g14_, 0, none⟩ 1 1 [.slice (some ⟨Z.line Z.it, 0, none⟩) Z.n Z.n] (by go_simp) rfl (World.news_of_block F14) (by intro u hu; simp at hu; subst hu; rfl) (by intro u hu; simp at hu; subst hu; exact nu_slice _ _ _) (by unfold maxLen; omega) (by omega) (Nat.le_trans hn0 SC.sz) ?_
   intro tv' c4 O G far
   rw [← lnV_succ] at O
   have SC := SC.appT hn0 O G
   clear O G far F14
   refine Rg.st hK ?_ fun hS inv => ?_
   ·exact (by have := SC.pt.head.2.2.2.2.2.2.1; exact this.trans (congrArg some et))
   clear hK K'
   refine Rg.tk 16 rfl ok inv hS fun inv => ?_
   refine Rg.tk 17 rfl ok inv hS fun inv => ?_
   have OO : Ow c4 n0 3 1 bv' (Z.ib + 1) (ints Z.n (Z.ib + 1)) := SC.pt.bo
   obtain ⟨gb_, cb_, eb_, _⟩ := OO.some (Nat.succ_pos _)
   have O3 : Ow c4 n0 59 1 tv' (Z.it + 1) (lnV Z.line Z.n (Z.it + 1)) := SC.pt.to_
   obtain ⟨gt_, ct_, et_, _⟩ := O3.some (Nat.succ_pos _)
   subst eb_ et_
   have P1 := SC.pt.setB (v := (.slice (some ⟨gb_, 0, none⟩) (Z.ib + 1) cb_)) (show Nu Z.hb by rw [eb]; exact NB)
   have h4 := SC.pt.head.2.2.2.2.1
   have f4 := SC.pt.head.2.2.2.2.2.2.2 4
   have s6 : (c4.setCell ⟨Z.p, 4, none⟩ (.slice (some ⟨gb_, 0, none⟩) (Z.ib + 1) cb_)).cell? ⟨Z.p, 6, none⟩ = some Z.tv := P1.head.2.2.2.2.2.2.1.trans (congrArg some et)
   have f6 : (c4.setCell ⟨Z.p, 4, none⟩ (.slice (some ⟨gb_, 0, none⟩) (Z.ib + 1) cb_)).frozen? ⟨Z.p, 6, none⟩ = false := P1.head.2.2.2.2.2.2.2 6
   refine Rg.w1 18 rfl inv fun K' hK => ?_
   (try simp only [zA, zB, zC])
   go_simp
   refine Rg.st hK ?_ fun hS inv => ?_
   ·exact s6
   clear hK K'
   refine Rg.tk 19 rfl ok inv hS fun inv => ?_
   refine Rg.tk 20 rfl ok inv hS fun inv => ?_
   have P2 := P1.setT (v := (.slice (some ⟨gt_, 0, none⟩) (Z.it + 1) ct_)) (show Nu Z.ht by rw [et]; exact NT)
   have B2 : Below n0 W ((c4.setCell ⟨Z.p, 4, none⟩ (.slice (some ⟨gb_, 0, none⟩) (Z.ib + 1) cb_)).setCell ⟨Z.p, 6, none⟩ (.slice (some ⟨gt_, 0, none⟩) (Z.it + 1) ct_)) := (SC.bl.setCell hP.ge.1 _).setCell hP.ge.1 _
   have O2 : ∀ b ty, Blk W b ty → ty ≠ 3 → ty ≠ 59 → ty ≠ 98 → ((c4.setCell ⟨Z.p, 4, none⟩ (.slice (some ⟨gb_, 0, none⟩) (Z.ib + 1) cb_)).setCell ⟨Z.p, 6, none⟩ (.slice (some ⟨gt_, 0, none⟩) (Z.it + 1) ct_)).heap[b]? = W.heap[b]? := fun b ty q h1 h2 h3 => by
    have ne : b ≠ Z.p := q.ne hP.pb h3
    rw [heap_setCell_other _ _ _ _ ne, heap_setCell_other _ _ _ _ ne]
    exact SC.ot b ty q h1 h2
   refine Rg.wl rfl ?_
   go_simp
   exact hKK _ _ _ _ _ _ _ _ _ _ _ _ _ _ _ _ _ _ _ _ _ _ _ P2 B2 O2
end Go.Proofs.Ytijdglogadnbcaa
