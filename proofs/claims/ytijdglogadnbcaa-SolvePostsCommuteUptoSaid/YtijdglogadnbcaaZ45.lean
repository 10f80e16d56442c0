/- solve.kind; a region and two ifs of system.between. Printed by genUf.py. -/
import Derived.Test.YtijdglogadnbcaaZ44
import Derived.Test.YtijdglogadnbcaaZ21
import Derived.Test.YtijdglogadnbcaaZ29
set_option linter.unusedVariables false
set_option linter.unusedSimpArgs false
set_option maxRecDepth 100000
set_option maxHeartbeats 40000000
namespace Go.Proofs.Ytijdglogadnbcaa
open Go.RowKit Nt Bl
def kindB (is b : Bool) : Int := if is then (if b then 1 else 2) else 0
theorem skind_any (is b : Bool) (w : World) : Calls Try.prog 21 #[.bool is, .bool b] w fun e w' => e = .returned (.int .i64 (kindB is b)) ∧ w = w' := by
 cases is <;> cases b
 all_goals
  go_enter Try.func21, Try.ntmps21
  go_wp2_with fail
  go_ret
  exact ⟨rfl, rfl⟩
/-- An end as lp.Greatest tells it. -/
def EndF (w : World) (u : Option (Rat × Bool)) (is b : Bool) (M : Nw) : Prop :=
 (is = false ∧ b = false ∧ u = none ∧ M = Nw.zero) ∨ (is = true ∧ ∃ a, u = some (a, b) ∧ RA w a M ∧ Sz a 1048576)
theorem EndF.limb {w w' : World} {u : Option (Rat × Bool)} {is b : Bool} {M : Nw} (h : EndF w u is b M) (hl : Limb w w') : EndF w' u is b M := by
 rcases h with h | ⟨h, a, h1, h2, h3⟩
 ·exact Or.inl h
 ·exact Or.inr ⟨h, a, h1, h2.limb hl, h3⟩
/-- An end as Range tells it. -/
def EndV (w : World) (f : Rat → Rat) (u : Option (Rat × Bool)) (M : Nw) : Prop := match u with
 | none => M = Nw.zero
 | some (a, _) => RA w (f a) M
theorem EndV.limb {w w' : World} {f : Rat → Rat} {u : Option (Rat × Bool)} {M : Nw} (h : EndV w f u M) (hl : Limb w w') : EndV w' f u M := by
 cases u with
 | none => exact h
 | some p => exact RA.limb (q := f p.1) h hl
def kindV : Option (Rat × Bool) → Int
 | none => 0
 | some (_, b) => if b then 1 else 2
theorem EndF.kind {w : World} {u : Option (Rat × Bool)} {is b : Bool} {M : Nw} (h : EndF w u is b M) : kindB is b = kindV u := by
 rcases h with ⟨rfl, rfl, rfl, _⟩ | ⟨rfl, a, rfl, _⟩ <;> rfl
theorem lps2_any {w : World} {rows : List Rl} {ra : Option Addr} {rc n m k : Nat} {gl : List (Nat × Rat)} {ga : Option Addr} {gc : Nat} (h : LpIn w rows ra n m gl ga gc) (hx : ∃ x, Sol (lns rows) n x) (hk : gl.length = k) :
  Calls Try.prog 20 #[.slice ra m rc, .int .i64 (n : Int), .slice ga k gc] w fun e w' => ∃ u is b M v, IsSup (Sol (lns rows) n) (val n (cof gl)) u ∧ EndF w' u is b M ∧
   e = .returned (.tuple #[.agg #[.bool M.s, .slice M.a M.n M.c, .slice M.b M.m M.d], .bool is, .bool b, v]) ∧ Below w.heap.size w w' := by
 rw [← hk]
 refine (lps_any h hx).mono ?_
 rintro e w' ⟨hb, u, hs, ⟨rfl, rfl⟩ | ⟨a, b, M, v, rfl, rfl, hM, sz⟩⟩
 ·exact ⟨_, false, false, Nw.zero, _, hs, Or.inl ⟨rfl, rfl, rfl, rfl⟩, rfl, hb⟩
 ·exact ⟨_, true, b, M, v, hs, Or.inr ⟨rfl, a, rfl, hM, sz⟩, rfl, hb⟩
theorem SmQ.neg {q : Rat} (h : SmQ q) : SmQ (-q) := by
 unfold SmQ at h ⊢
 rw [Rat.neg_num, Rat.neg_den, Int.natAbs_neg]; exact h
theorem GoodC.neg {n : Nat} {l : List (Nat × Rat)} (h : GoodC n l) : GoodC n (negC l) := by
 refine ⟨by rw [negC_len]; exact h.len, fun i hi => ?_⟩
 rw [negC_len] at hi
 rw [negC_get hi]
 exact ⟨(h.at_ i hi).1, (h.at_ i hi).2.neg⟩
theorem LpIn.neg {w w' : World} {rows : List Rl} {ra a : Option Addr} {n m k : Nat} {gl : List (Nat × Rat)} {ga : Option Addr} {gc : Nat} (h : LpIn w rows ra n m gl ga gc) (hk : gl.length = k) (hb : Below w.heap.size w w') (hq : QfAt w' (negC gl) a) : LpIn w' rows ra n m (negC gl) a k :=
 ⟨h.hr.below hb, h.hm, hq, ⟨by rw [negC_len]; omega, by have := h.hgc; omega⟩, h.hn, h.hm60, h.good, h.goal.neg⟩
theorem LpIn.below {w w' : World} {rows : List Rl} {ra : Option Addr} {n m : Nat} {gl : List (Nat × Rat)} {ga : Option Addr} {gc : Nat} (h : LpIn w rows ra n m gl ga gc) (hb : Below w.heap.size w w') : LpIn w' rows ra n m gl ga gc :=
 ⟨h.hr.below hb, h.hm, h.hg.below hb, h.hgc, h.hn, h.hm60, h.good, h.goal⟩
/-- A block of a Range. -/
def RgB (w : World) (g : Nat) (l h : Int) (L H : Nw) : Prop := w.heap[g]? = some (.cells #[.int .i64 l, .int .i64 h, .bool L.s, .slice L.a L.n L.c, .slice L.b L.m L.d, .bool H.s, .slice H.a H.n H.c, .slice H.b H.m H.d] 33 (0, 0))
section
variable {w w' : World} {g : Nat} {l h : Int} {L H : Nw}
theorem RgB.lt (x : RgB w g l h L H) : g < w.heap.size := (Array.getElem?_eq_some_iff.1 x).1
theorem RgB.below (x : RgB w g l h L H) (hb : Below w.heap.size w w') : RgB w' g l h L H := (hb.block g x.lt).trans x
theorem RgB.keep (x : RgB w g l h L H) (e : w'.heap[g]? = w.heap[g]?) : RgB w' g l h L H := e.trans x
theorem RgB.reads (x : RgB w g l h L H) : w.cell? ⟨g, 0, none⟩ = some (.int .i64 l) ∧ w.cell? ⟨g, 1, none⟩ = some (.int .i64 h) ∧ w.cell? ⟨g, 2, none⟩ = some (.bool L.s) ∧ w.cell? ⟨g, 3, none⟩ = some (.slice L.a L.n L.c) ∧ w.cell? ⟨g, 4, none⟩ = some (.slice L.b L.m L.d) ∧
  w.cell? ⟨g, 5, none⟩ = some (.bool H.s) ∧ w.cell? ⟨g, 6, none⟩ = some (.slice H.a H.n H.c) ∧ w.cell? ⟨g, 7, none⟩ = some (.slice H.b H.m H.d) := by
 refine ⟨?_, ?_, ?_, ?_, ?_, ?_, ?_, ?_⟩
 ·rw [cell_of_row w g 0 _ _ _ x]; rfl
 ·rw [cell_of_row w g 1 _ _ _ x]; rfl
 ·rw [cell_of_row w g 2 _ _ _ x]; rfl
 ·rw [cell_of_row w g 3 _ _ _ x]; rfl
 ·rw [cell_of_row w g 4 _ _ _ x]; rfl
 ·rw [cell_of_row w g 5 _ _ _ x]; rfl
 ·rw [cell_of_row w g 6 _ _ _ x]; rfl
 ·rw [cell_of_row w g 7 _ _ _ x]; rfl
theorem RgB.free (x : RgB w g l h L H) (i : Nat) : w.frozen? ⟨g, i, none⟩ = false := by unfold RgB at x; simp [World.frozen?, x]
theorem RgB.nou (x : RgB w g l h L H) : ∀ o z, w.cell? ⟨g, o, none⟩ ≠ some (.int .u32 z) := fun o z e => by
 rw [cell_of_row w g o _ _ _ x] at e
 rcases o with _ | _ | _ | _ | _ | _ | _ | _ | o <;> simp at e
theorem RgB.limb (x : RgB w g l h L H) (e : ∀ b, b ≠ g → w'.heap[b]? = w.heap[b]?) : Limb w w' := limb_oth e x.nou
theorem RgB.set0 (x : RgB w g l h L H) (k : Int) : RgB (w.setCell ⟨g, 0, none⟩ (.int .i64 k)) g k h L H := by
 unfold RgB at x ⊢; simp [World.setCell, Array.getElem?_modify, x]
theorem RgB.set1 (x : RgB w g l h L H) (k : Int) : RgB (w.setCell ⟨g, 1, none⟩ (.int .i64 k)) g l k L H := by
 unfold RgB at x ⊢; simp [World.setCell, Array.getElem?_modify, x]
theorem RgB.setL (x : RgB w g l h L H) (M : Nw) : RgB (((w.setCell ⟨g, 2, none⟩ (.bool M.s)).setCell ⟨g, 3, none⟩ (.slice M.a M.n M.c)).setCell ⟨g, 4, none⟩ (.slice M.b M.m M.d)) g l h M H := by
 unfold RgB at x ⊢; simp [World.setCell, Array.getElem?_modify, x]
theorem RgB.setH (x : RgB w g l h L H) (M : Nw) : RgB (((w.setCell ⟨g, 5, none⟩ (.bool M.s)).setCell ⟨g, 6, none⟩ (.slice M.a M.n M.c)).setCell ⟨g, 7, none⟩ (.slice M.b M.m M.d)) g l h L M := by
 unfold RgB at x ⊢; simp [World.setCell, Array.getElem?_modify, x]
theorem oth3i {i j k : Nat} (x y z : Value) : ∀ b, b ≠ g → (((w.setCell ⟨g, i, none⟩ x).setCell ⟨g, j, none⟩ y).setCell ⟨g, k, none⟩ z).heap[b]? = w.heap[b]? := fun b hb => by
 rw [heap_setCell_other _ _ _ _ hb, heap_setCell_other _ _ _ _ hb, heap_setCell_other _ _ _ _ hb]
theorem below3i {k0 i j k : Nat} {w1 : World} (hb : Below k0 w w1) (hg : k0 ≤ g) (x y z : Value) : Below k0 w (((w1.setCell ⟨g, i, none⟩ x).setCell ⟨g, j, none⟩ y).setCell ⟨g, k, none⟩ z) :=
 ((hb.setCell hg _).setCell hg _).setCell hg _
end
theorem bt_r6 {W : World} {rows : List Rl} {ra ga : Option Addr} {rc n m k gc g2 : Nat} {gl : List (Nat × Rat)} (p1_ : W.cell? ⟨g2, 1, none⟩ = some (.slice ra m rc)) (p0_ : W.cell? ⟨g2, 0, none⟩ = some (.int .i64 (n : Int)))
  (h : LpIn W rows ra n m gl ga gc) (hx : ∃ x, Sol (lns rows) n x) (hk : gl.length = k)
  {K : Act → World → Prop} {u0 u3 u4 u5 u6 u7 u8 u9 u10 u11 u12 u13 u14 u15 u16 u17 u18 u19 u20 u21 u22 u23 u24 u25 u26 u27 u28 u29 u30 u31 u32 u33 u34 u35 u36 u37 u38 u39 u40 u41 u42 u43 u44 u45 u46 u47 u48 u49 u50 u51 u52 : Value}
  (hK : ∀ (u : Option (Rat × Bool)) (is b : Bool) (M : Nw) (v : Value) (g10 : Nat) (x31 x32 x33 x34 x35 x36 x37 x38 x39 x40 x41 x42 : Value) (W' : World), IsSup (Sol (lns rows) n) (val n (cof (negC gl))) u → EndF W' u is b M → NQ W' g10 M → W.heap.size ≤ g10 → Below W.heap.size W W' → K ⟨#[u0, .slice ga k gc, .pointer (some ⟨g2, 0, none⟩), u3, u4, u5, u6, .bool is, .bool b, u9, .pointer (some ⟨g10, 0, none⟩), v, u12, u13, u14, u15, u16, u17, u18, u19, u20, u21, u22, u23, u24, u25, u26, u27, u28, u29, u30, x31, x32, x33, x34, x35, x36, x37, x38, x39, x40, x41, x42, u43, u44, u45, u46, u47, u48, u49, u50, u51, u52], []⟩ W') :
  (regC Try.f12 6).wp Try.prog (Only K) ⟨#[u0, .slice ga k gc, .pointer (some ⟨g2, 0, none⟩), u3, u4, u5, u6, u7, u8, u9, u10, u11, u12, u13, u14, u15, u16, u17, u18, u19, u20, u21, u22, u23, u24, u25, u26, u27, u28, u29, u30, u31, u32, u33, u34, u35, u36, u37, u38, u39, u40, u41, u42, u43, u44, u45, u46, u47, u48, u49, u50, u51, u52], []⟩ W := by
 rw [show regC Try.f12 6 = _ from by (simp only [regC, Try.f12, findC, Nat.reduceEqDiff, if_true, if_false, Option.getD]; rfl)]
 have hKK := hK
 clear hK
 have k8 : k ≤ 8 := by rw [← hk]; exact h.goal.len
 have kc := h.hgc
 rw [hk] at kc
 have KP := Lib.hid (fun (W' : World) (hB : Below W.heap.size W W') => (show W'.cell? ⟨g2, 1, none⟩ = some (.slice ra m rc) ∧ W'.cell? ⟨g2, 0, none⟩ = some (.int .i64 (n : Int)) from ⟨cell_later hB (Nat.le_refl _) p1_, cell_later hB (Nat.le_refl _) p0_⟩))
 refine Rg.wpD_start 16 [] (fun W' => W'.cell? ⟨g2, 1, none⟩ = some (.slice ra m rc) ∧ W'.cell? ⟨g2, 0, none⟩ = some (.int .i64 (n : Int))) (by kernel_rfl) (by kernel_rfl) ?_ (fun hS ok inv => ?_)
 ·exact ⟨p1_, p0_⟩
 refine Rg.tk 0 rfl ok inv hS fun inv => ?_
 refine Rg.tk 1 rfl ok inv hS fun inv => ?_
 refine Rg.tk 2 rfl ok inv hS fun inv => ?_
 refine Rg.tk 3 rfl ok inv hS fun inv => ?_
 refine Rg.tk 4 rfl ok inv hS fun inv => ?_
 have BC : Below W.heap.size W W.drew := (Below.refl _ _).drew
 generalize W.drew = c0 at *
 refine Rg.w2 5 12 rfl rfl inv (fun K' hK => ?_) fun K' hK => ?_
 ·(try simp only [zA, zB, zC])
  go_simp
  go_at_call 23
  refine (turned_any (QfAt.below h.hg BC) hk ⟨by omega, by omega⟩ (by omega)).mono ?_
  rintro e w6 ⟨gt_, rfl, QT, B⟩
  have BC := Below.over BC BC.size B
  have KS := KP.out w6 BC
  refine Rg.st hK ?_ fun hS inv => ?_
  ·exact KS
  clear hK K'
  refine Rg.w2 6 12 rfl rfl inv (fun K' hK => ?_) fun K' hK => ?_
  ·(try simp only [zA, zB, zC])
   go_simp
   go_at_call 20
   refine (lps2_any (k := k) (h.neg hk BC QT) hx (by rw [negC_len]; exact hk)).mono ?_
   rintro e w7 ⟨u, is, b, M, v, HU, HE, rfl, B⟩
   have HU := Lib.hid HU
   have BC := Below.over BC BC.size B
   have KS := KP.out w7 BC
   refine Rg.st hK ?_ fun hS inv => ?_
   ·exact KS
   clear hK K'
   refine Rg.tk 7 rfl ok inv hS fun inv => ?_
   refine Rg.tk 8 rfl ok inv hS fun inv => ?_
   refine Rg.tk 9 rfl ok inv hS fun inv => ?_
   refine Rg.tk 10 rfl ok inv hS fun inv => ?_
   refine Rg.tk 11 rfl ok inv hS fun inv => ?_
   refine Rg.w1 12 rfl inv fun K' hK => ?_
   have BN : Below W.heap.size W (w7.alloc (.cells #[.bool false, .slice none 0 0, .slice none 0 0] 26)) := Below.over BC BC.size (below_new _ _)
   (try simp only [zA, zB, zC])
   go_simp
   refine Rg.st hK ?_ fun hS inv => ?_
   ·exact KP.out _ BN
   clear hK K'
   have GE : Hid (W.heap.size ≤ w7.heap.size) := BC.size
   have XG : NQ (w7.alloc (.cells #[.bool false, .slice none 0 0, .slice none 0 0] 26)) w7.heap.size Nw.zero := heap_alloc_new _ _
   have HE := HE.limb (Limb.of_below (below_new w7 (.cells #[.bool false, .slice none 0 0, .slice none 0 0] 26)))
   have BC := BN
   generalize hq : w7.alloc (.cells #[.bool false, .slice none 0 0, .slice none 0 0] 26) = a9 at *
   generalize w7.heap.size = ga_ at *
   clear hq
   obtain ⟨cz0, cz1, cz2, fz⟩ := XG.reads
   have fz0 := fz 0; have fz1 := fz 1; have fz2 := fz 2
   clear fz
   have XF := XG.set3 M
   have LF := XG.limb3 M
   have BF := below3i (i := 0) (j := 1) (k := 2) BC GE.out (.bool M.s) (.slice M.a M.n M.c) (.slice M.b M.m M.d)
   have HF := HE.limb LF
   have XG := Lib.hid XG
   have KF := KP.out _ BF
   have XF := Lib.hid XF; have LF := Lib.hid LF; have BF := Lib.hid BF; have HF := Lib.hid HF; have KF := Lib.hid KF
   refine Rg.w1 13 rfl inv fun K' hK => ?_
   (try simp only [zA, zB, zC])
   go_simp
   refine Rg.st hK ?_ fun hS inv => ?_
   ·exact KF.out
   clear hK K'
   refine Rg.y1 14 rfl inv hS fun inv => ?_
   refine Rg.y1 15 rfl inv hS fun inv => ?_
   refine Rg.wl rfl ?_
   go_simp
   exact hKK u is b M _ ga_ _ _ _ _ _ _ _ _ _ _ _ _ _ HU.out HF.out XF.out GE.out BF.out
  ·have BN : Below W.heap.size W (w6.alloc (.cells #[.bool false, .slice none 0 0, .slice none 0 0] 26)) := Below.over BC BC.size (below_new _ _)
   (try simp only [zA, zB, zC])
   go_simp
   refine Rg.st hK ?_ fun hS inv => ?_
   ·exact KP.out _ BN
   clear hK K'
   have GE : Hid (W.heap.size ≤ w6.heap.size) := BC.size
   have XG : NQ (w6.alloc (.cells #[.bool false, .slice none 0 0, .slice none 0 0] 26)) w6.heap.size Nw.zero := heap_alloc_new _ _
   have QT := QT.below (below_new w6 (.cells #[.bool false, .slice none 0 0, .slice none 0 0] 26))
   have BC := BN
   generalize hq : w6.alloc (.cells #[.bool false, .slice none 0 0, .slice none 0 0] 26) = a1 at *
   generalize w6.heap.size = ga_ at *
   clear hq
   refine Rg.w1 6 rfl inv fun K' hK => ?_
   (try simp only [zA, zB, zC])
   go_simp
   go_at_call 20
   refine (lps2_any (k := k) (h.neg hk BC QT) hx (by rw [negC_len]; exact hk)).mono ?_
   rintro e w7 ⟨u, is, b, M, v, HU, HE, rfl, B⟩
   have HU := Lib.hid HU
   have XG := XG.later B XG.lt
   have BC := Below.over BC BC.size B
   have KS := KP.out w7 BC
   refine Rg.st hK ?_ fun hS inv => ?_
   ·exact KS
   clear hK K'
   refine Rg.tk 7 rfl ok inv hS fun inv => ?_
   refine Rg.tk 8 rfl ok inv hS fun inv => ?_
   refine Rg.tk 9 rfl ok inv hS fun inv => ?_
   refine Rg.tk 10 rfl ok inv hS fun inv => ?_
   refine Rg.tk 11 rfl ok inv hS fun inv => ?_
   obtain ⟨cz0, cz1, cz2, fz⟩ := XG.reads
   have fz0 := fz 0; have fz1 := fz 1; have fz2 := fz 2
   clear fz
   have XF := XG.set3 M
   have LF := XG.limb3 M
   have BF := below3i (i := 0) (j := 1) (k := 2) BC GE.out (.bool M.s) (.slice M.a M.n M.c) (.slice M.b M.m M.d)
   have HF := HE.limb LF
   have XG := Lib.hid XG
   have KF := KP.out _ BF
   have XF := Lib.hid XF; have LF := Lib.hid LF; have BF := Lib.hid BF; have HF := Lib.hid HF; have KF := Lib.hid KF
   refine Rg.w1 13 rfl inv fun K' hK => ?_
   (try simp only [zA, zB, zC])
   go_simp
   refine Rg.st hK ?_ fun hS inv => ?_
   ·exact KF.out
   clear hK K'
   refine Rg.y1 14 rfl inv hS fun inv => ?_
   refine Rg.y1 15 rfl inv hS fun inv => ?_
   refine Rg.wl rfl ?_
   go_simp
   exact hKK u is b M _ ga_ _ _ _ _ _ _ _ _ _ _ _ _ _ HU.out HF.out XF.out GE.out BF.out
 ·have BN : Below W.heap.size W (c0.alloc (.cells #[.bool false, .slice none 0 0, .slice none 0 0] 26)) := Below.over BC BC.size (below_new _ _)
  (try simp only [zA, zB, zC])
  go_simp
  refine Rg.st hK ?_ fun hS inv => ?_
  ·exact KP.out _ BN
  clear hK K'
  have GE : Hid (W.heap.size ≤ c0.heap.size) := BC.size
  have XG : NQ (c0.alloc (.cells #[.bool false, .slice none 0 0, .slice none 0 0] 26)) c0.heap.size Nw.zero := heap_alloc_new _ _
  have BC := BN
  generalize hq : c0.alloc (.cells #[.bool false, .slice none 0 0, .slice none 0 0] 26) = a0 at *
  generalize c0.heap.size = ga_ at *
  clear hq
  refine Rg.w1 5 rfl inv fun K' hK => ?_
  (try simp only [zA, zB, zC])
  go_simp
  go_at_call 23
  refine (turned_any (QfAt.below h.hg BC) hk ⟨by omega, by omega⟩ (by omega)).mono ?_
  rintro e w6 ⟨gt_, rfl, QT, B⟩
  have XG := XG.later B XG.lt
  have BC := Below.over BC BC.size B
  have KS := KP.out w6 BC
  refine Rg.st hK ?_ fun hS inv => ?_
  ·exact KS
  clear hK K'
  refine Rg.w1 6 rfl inv fun K' hK => ?_
  (try simp only [zA, zB, zC])
  go_simp
  go_at_call 20
  refine (lps2_any (k := k) (h.neg hk BC QT) hx (by rw [negC_len]; exact hk)).mono ?_
  rintro e w7 ⟨u, is, b, M, v, HU, HE, rfl, B⟩
  have HU := Lib.hid HU
  have XG := XG.later B XG.lt
  have BC := Below.over BC BC.size B
  have KS := KP.out w7 BC
  refine Rg.st hK ?_ fun hS inv => ?_
  ·exact KS
  clear hK K'
  refine Rg.tk 7 rfl ok inv hS fun inv => ?_
  refine Rg.tk 8 rfl ok inv hS fun inv => ?_
  refine Rg.tk 9 rfl ok inv hS fun inv => ?_
  refine Rg.tk 10 rfl ok inv hS fun inv => ?_
  refine Rg.tk 11 rfl ok inv hS fun inv => ?_
  obtain ⟨cz0, cz1, cz2, fz⟩ := XG.reads
  have fz0 := fz 0; have fz1 := fz 1; have fz2 := fz 2
  clear fz
  have XF := XG.set3 M
  have LF := XG.limb3 M
  have BF := below3i (i := 0) (j := 1) (k := 2) BC GE.out (.bool M.s) (.slice M.a M.n M.c) (.slice M.b M.m M.d)
  have HF := HE.limb LF
  have XG := Lib.hid XG
  have KF := KP.out _ BF
  have XF := Lib.hid XF; have LF := Lib.hid LF; have BF := Lib.hid BF; have HF := Lib.hid HF; have KF := Lib.hid KF
  refine Rg.w1 13 rfl inv fun K' hK => ?_
  (try simp only [zA, zB, zC])
  go_simp
  refine Rg.st hK ?_ fun hS inv => ?_
  ·exact KF.out
  clear hK K'
  refine Rg.y1 14 rfl inv hS fun inv => ?_
  refine Rg.y1 15 rfl inv hS fun inv => ?_
  refine Rg.wl rfl ?_
  go_simp
  exact hKK u is b M _ ga_ _ _ _ _ _ _ _ _ _ _ _ _ _ HU.out HF.out XF.out GE.out BF.out
theorem bt_c27 {W : World} {g5 g6 : Nat} {is b : Bool} {lo hi : Int} {Lo Hi M : Nw} {u : Option (Rat × Bool)} (X : RgB W g5 lo hi Lo Hi) (Y : NQ W g6 M) (hE : EndF W u is b M) (h0 : Hi = Nw.zero)
  {K : Act → World → Prop} {u0 u1 u2 u3 u4 u7 u8 u9 u10 u11 u12 u13 u14 u15 u16 u17 u18 u19 u20 u21 u22 u23 u24 u25 u26 u28 u29 u30 u31 u32 u33 u34 u35 u36 u37 u38 u39 u40 u41 u42 u43 u44 u45 u46 u47 u48 u49 u50 u51 u52 : Value}
  (hK : ∀ (N : Nw) (x28 x29 x30 : Value) (W' : World), RgB W' g5 lo hi Lo N → EndV W' (fun q => q) u N → Below g5 W W' → Limb W W' → K ⟨#[u0, u1, u2, u3, u4, .pointer (some ⟨g5, 0, none⟩), .pointer (some ⟨g6, 0, none⟩), u7, u8, u9, u10, u11, u12, u13, u14, u15, u16, u17, u18, u19, u20, u21, u22, u23, u24, u25, u26, .bool is, x28, x29, x30, u31, u32, u33, u34, u35, u36, u37, u38, u39, u40, u41, u42, u43, u44, u45, u46, u47, u48, u49, u50, u51, u52], []⟩ W') :
  (condC Try.f12 27).wp Try.prog (Only K) ⟨#[u0, u1, u2, u3, u4, .pointer (some ⟨g5, 0, none⟩), .pointer (some ⟨g6, 0, none⟩), u7, u8, u9, u10, u11, u12, u13, u14, u15, u16, u17, u18, u19, u20, u21, u22, u23, u24, u25, u26, .bool is, u28, u29, u30, u31, u32, u33, u34, u35, u36, u37, u38, u39, u40, u41, u42, u43, u44, u45, u46, u47, u48, u49, u50, u51, u52], []⟩ W := by
 rw [show condC Try.f12 27 = _ from by (simp only [condC, Try.f12, findK, Nat.reduceEqDiff, if_true, if_false, Option.getD]; rfl)]
 have hKK := hK
 clear hK
 subst h0
 have hKK := Lib.hid hKK; have XH := Lib.hid X; have YH := Lib.hid Y
 rcases hE with ⟨rfl, rfl, rfl, rfl⟩ | ⟨rfl, a, rfl, hM, sz⟩
 ·clear X Y
  go_wp2_with fail
  exact hKK.out Nw.zero _ _ _ _ XH.out rfl (Below.refl _ _) (Limb.refl _)
 ·have ln := RA.len hM sz
  obtain ⟨c0, c1, c2, _⟩ := Y.reads
  have C := Lib.hid (cloneNum_any hM ⟨by omega, by omega⟩)
  have BW1 := Lib.hid (Below.refl W.heap.size W)
  have X1 := Lib.hid X
  clear X Y hM
  go_wp2_with fail
  refine C.out.mono ?_
  rintro e w2 ⟨s2, a2, n2, k2, b2, m2, d2, rfl, L2, B2⟩
  have L2 : Hid (RA w2 (a) ⟨s2, a2, n2, k2, b2, m2, d2⟩) := L2
  have X2 := X1.out.below B2
  have z5 := X2.free 5; have z6 := X2.free 6; have z7 := X2.free 7
  have r := X2.reads
  obtain ⟨_, _, q2, q3, q4, q5, q6, q7⟩ := r
  have X2 := Lib.hid X2
  have BW2 := Lib.hid (Below.over BW1.out BW1.out.size B2)
  have hKK := hKK
  clear B2
  go_wp2_with fail
  have X3 := X2.out.setH ⟨s2, a2, n2, k2, b2, m2, d2⟩
  have L3 := X2.out.limb (oth3i (i := 5) (j := 6) (k := 7) (.bool s2) (.slice a2 n2 k2) (.slice b2 m2 d2))
  have B3 := below3i (i := 5) (j := 6) (k := 7) (BW2.out.mono (Nat.le_of_lt XH.out.lt)) (Nat.le_refl g5) (.bool s2) (.slice a2 n2 k2) (.slice b2 m2 d2)
  exact hKK.out ⟨s2, a2, n2, k2, b2, m2, d2⟩ _ _ _ _ X3 (RA.limb L2.out L3) B3 ((Limb.of_below BW2.out).trans L3)
theorem bt_c47 {W : World} {g5 g6 : Nat} {is b : Bool} {lo hi : Int} {Lo Hi M : Nw} {u : Option (Rat × Bool)} (X : RgB W g5 lo hi Lo Hi) (Y : NQ W g6 M) (hE : EndF W u is b M) (h0 : Lo = Nw.zero)
  {K : Act → World → Prop} {u0 u1 u2 u3 u4 u6 u7 u8 u9 u11 u12 u13 u14 u15 u16 u17 u18 u19 u20 u21 u22 u23 u24 u25 u26 u27 u28 u29 u30 u31 u32 u33 u34 u35 u36 u37 u38 u39 u40 u41 u42 u43 u44 u45 u46 u48 u49 u50 u51 u52 : Value}
  (hK : ∀ (N : Nw) (x48 x49 x50 x51 : Value) (W' : World), RgB W' g5 lo hi N Hi → EndV W' (fun q => -q) u N → Below g5 W W' → Limb W W' → K ⟨#[u0, u1, u2, u3, u4, .pointer (some ⟨g5, 0, none⟩), u6, u7, u8, u9, .pointer (some ⟨g6, 0, none⟩), u11, u12, u13, u14, u15, u16, u17, u18, u19, u20, u21, u22, u23, u24, u25, u26, u27, u28, u29, u30, u31, u32, u33, u34, u35, u36, u37, u38, u39, u40, u41, u42, u43, u44, u45, u46, .bool is, x48, x49, x50, x51, u52], []⟩ W') :
  (condC Try.f12 47).wp Try.prog (Only K) ⟨#[u0, u1, u2, u3, u4, .pointer (some ⟨g5, 0, none⟩), u6, u7, u8, u9, .pointer (some ⟨g6, 0, none⟩), u11, u12, u13, u14, u15, u16, u17, u18, u19, u20, u21, u22, u23, u24, u25, u26, u27, u28, u29, u30, u31, u32, u33, u34, u35, u36, u37, u38, u39, u40, u41, u42, u43, u44, u45, u46, .bool is, u48, u49, u50, u51, u52], []⟩ W := by
 rw [show condC Try.f12 47 = _ from by (simp only [condC, Try.f12, findK, Nat.reduceEqDiff, if_true, if_false, Option.getD]; rfl)]
 have hKK := hK
 clear hK
 subst h0
 have hKK := Lib.hid hKK; have XH := Lib.hid X; have YH := Lib.hid Y
 rcases hE with ⟨rfl, rfl, rfl, rfl⟩ | ⟨rfl, a, rfl, hM, sz⟩
 ·clear X Y
  go_wp2_with fail
  exact hKK.out Nw.zero _ _ _ _ _ XH.out rfl (Below.refl _ _) (Limb.refl _)
 ·have ln := RA.len hM sz
  obtain ⟨c0, c1, c2, _⟩ := Y.reads
  have CN := Lib.hid (rneg_any hM)
  clear X Y hM
  go_wp2_with fail
  refine CN.out.mono ?_
  rintro e w1 ⟨s1, a1, n1, k1, b1, m1, d1, rfl, L1, B1⟩
  have sn : Sz (-a) 1048576 := sz.neg
  have L1 : RA w1 (-a) ⟨s1, a1, n1, k1, b1, m1, d1⟩ := L1
  have ln1 := RA.len L1 sn
  have C := Lib.hid (cloneNum_any L1 ⟨by simp only at ln1 ⊢; omega, by simp only at ln1 ⊢; omega⟩)
  have BW1 := Lib.hid B1
  have X1 := Lib.hid (XH.out.below B1)
  clear L1 B1 ln1
  go_wp2_with fail
  refine C.out.mono ?_
  rintro e w2 ⟨s2, a2, n2, k2, b2, m2, d2, rfl, L2, B2⟩
  have L2 : Hid (RA w2 (-a) ⟨s2, a2, n2, k2, b2, m2, d2⟩) := L2
  have X2 := X1.out.below B2
  have z2 := X2.free 2; have z3 := X2.free 3; have z4 := X2.free 4
  have r := X2.reads
  obtain ⟨_, _, q2, q3, q4, q5, q6, q7⟩ := r
  have X2 := Lib.hid X2
  have BW2 := Lib.hid (Below.over BW1.out BW1.out.size B2)
  have hKK := hKK
  clear B2
  go_wp2_with fail
  have X3 := X2.out.setL ⟨s2, a2, n2, k2, b2, m2, d2⟩
  have L3 := X2.out.limb (oth3i (i := 2) (j := 3) (k := 4) (.bool s2) (.slice a2 n2 k2) (.slice b2 m2 d2))
  have B3 := below3i (i := 2) (j := 3) (k := 4) (BW2.out.mono (Nat.le_of_lt XH.out.lt)) (Nat.le_refl g5) (.bool s2) (.slice a2 n2 k2) (.slice b2 m2 d2)
  exact hKK.out ⟨s2, a2, n2, k2, b2, m2, d2⟩ _ _ _ _ _ X3 (RA.limb L2.out L3) B3 ((Limb.of_below BW2.out).trans L3)
end Go.Proofs.Ytijdglogadnbcaa
