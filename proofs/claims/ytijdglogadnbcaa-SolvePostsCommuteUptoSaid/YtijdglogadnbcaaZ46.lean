/- system.between. Printed by genUg.py. -/
import Derived.Test.YtijdglogadnbcaaZ45
import Derived.Test.YtijdglogadnbcaaZ41
import Derived.Test.YtijdglogadnbcaaZ09
import Derived.Test.YtijdglogadnbcaaZ42
import Derived.Test.YtijdglogadnbcaaZ18
set_option linter.unusedVariables false
set_option linter.unusedSimpArgs false
set_option maxRecDepth 100000
set_option maxHeartbeats 40000000
namespace Go.Proofs.Ytijdglogadnbcaa
open Go.RowKit Nt Bl
/-- A Range as a value. -/
def rgV (l h : Int) (L H : Nw) : Value := .agg #[.int .i64 l, .int .i64 h, .bool L.s, .slice L.a L.n L.c, .slice L.b L.m L.d, .bool H.s, .slice H.a H.n H.c, .slice H.b H.m H.d]
def BoxS (w : World) (g n : Nat) (ra : Option Addr) (m rc : Nat) : Prop := w.heap[g]? = some (.cells #[.int .i64 (n : Int), .slice ra m rc] 46 (0, 0))
theorem BoxS.reads {w : World} {g n m rc : Nat} {ra : Option Addr} (x : BoxS w g n ra m rc) : w.cell? ⟨g, 0, none⟩ = some (.int .i64 (n : Int)) ∧ w.cell? ⟨g, 1, none⟩ = some (.slice ra m rc) := by
 refine ⟨?_, ?_⟩
 ·rw [cell_of_row w g 0 _ _ _ x]; rfl
 ·rw [cell_of_row w g 1 _ _ _ x]; rfl
theorem BoxS.keep {w w' : World} {g n m rc : Nat} {ra : Option Addr} (x : BoxS w g n ra m rc) (e : w'.heap[g]? = w.heap[g]?) : BoxS w' g n ra m rc := e.trans x
theorem BoxS.lt {w : World} {g n m rc : Nat} {ra : Option Addr} (x : BoxS w g n ra m rc) : g < w.heap.size := (Array.getElem?_eq_some_iff.1 x).1
section
variable {w w1 : World} {g k0 : Nat} {l h : Int} {L H : Nw}
theorem oth8 (x0 x1 x2 x3 x4 x5 x6 x7 : Value) : ∀ b, b ≠ g → ((((((((w.setCell ⟨g, 0, none⟩ x0).setCell ⟨g, 1, none⟩ x1).setCell ⟨g, 2, none⟩ x2).setCell ⟨g, 3, none⟩ x3).setCell ⟨g, 4, none⟩ x4).setCell ⟨g, 5, none⟩ x5).setCell ⟨g, 6, none⟩ x6).setCell ⟨g, 7, none⟩ x7).heap[b]? = w.heap[b]? := fun b hb => by
 rw [heap_setCell_other _ _ _ _ hb, heap_setCell_other _ _ _ _ hb, heap_setCell_other _ _ _ _ hb, heap_setCell_other _ _ _ _ hb, heap_setCell_other _ _ _ _ hb, heap_setCell_other _ _ _ _ hb, heap_setCell_other _ _ _ _ hb, heap_setCell_other _ _ _ _ hb]
theorem below8 (hb : Below k0 w w1) (hg : k0 ≤ g) (x0 x1 x2 x3 x4 x5 x6 x7 : Value) : Below k0 w ((((((((w1.setCell ⟨g, 0, none⟩ x0).setCell ⟨g, 1, none⟩ x1).setCell ⟨g, 2, none⟩ x2).setCell ⟨g, 3, none⟩ x3).setCell ⟨g, 4, none⟩ x4).setCell ⟨g, 5, none⟩ x5).setCell ⟨g, 6, none⟩ x6).setCell ⟨g, 7, none⟩ x7) :=
 (((((((hb.setCell hg _).setCell hg _).setCell hg _).setCell hg _).setCell hg _).setCell hg _).setCell hg _).setCell hg _
theorem RgB.set8 (x : RgB w g l h L H) (l' h' : Int) (A B : Nw) : RgB ((((((((w.setCell ⟨g, 0, none⟩ (.int .i64 l')).setCell ⟨g, 1, none⟩ (.int .i64 h')).setCell ⟨g, 2, none⟩ (.bool A.s)).setCell ⟨g, 3, none⟩ (.slice A.a A.n A.c)).setCell ⟨g, 4, none⟩ (.slice A.b A.m A.d)).setCell ⟨g, 5, none⟩ (.bool B.s)).setCell ⟨g, 6, none⟩ (.slice B.a B.n B.c)).setCell ⟨g, 7, none⟩ (.slice B.b B.m B.d)) g l' h' A B := by
 unfold RgB at x ⊢; simp [World.setCell, Array.getElem?_modify, x]
end
theorem between_any {w : World} {rows : List Rl} {ra ga : Option Addr} {rc n m k gc : Nat} {gl : List (Nat × Rat)} (h : LpIn w rows ra n m gl ga gc) (hx : ∃ x, Sol (lns rows) n x) (hk : gl.length = k) :
  Calls Try.prog 12 #[.agg #[.int .i64 (n : Int), .slice ra m rc], .slice ga k gc] w fun e w' => ∃ u l Hi Lo, IsSup (Sol (lns rows) n) (val n (cof gl)) u ∧ IsSup (Sol (lns rows) n) (val n (cof (negC gl))) l ∧
   e = .returned (rgV (kindV l) (kindV u) Lo Hi) ∧ EndV w' (fun q => -q) l Lo ∧ EndV w' (fun q => q) u Hi ∧ Below w.heap.size w w' := by
 have B0 : Hid (Below w.heap.size w (((w.alloc (.cells #[.int .i64 (n : Int), .slice ra m rc] 46)).alloc (.cells #[.int .i64 0, .int .i64 0, .bool false, .slice none 0 0, .slice none 0 0, .bool false, .slice none 0 0, .slice none 0 0] 33)).alloc (.cells #[.int .i64 0, .int .i64 0, .bool false, .slice none 0 0, .slice none 0 0, .bool false, .slice none 0 0, .slice none 0 0] 33))) := ((below_new _ _).alloc (by simp) _).alloc (by simp; omega) _
 have X2 : Hid (BoxS (((w.alloc (.cells #[.int .i64 (n : Int), .slice ra m rc] 46)).alloc (.cells #[.int .i64 0, .int .i64 0, .bool false, .slice none 0 0, .slice none 0 0, .bool false, .slice none 0 0, .slice none 0 0] 33)).alloc (.cells #[.int .i64 0, .int .i64 0, .bool false, .slice none 0 0, .slice none 0 0, .bool false, .slice none 0 0, .slice none 0 0] 33)) w.heap.size n ra m rc) := by
  show BoxS _ _ _ _ _ _
  unfold BoxS
  rw [Below.heap_alloc _ _ _ (by simp; omega), Below.heap_alloc _ _ _ (by simp)]; exact heap_alloc_new w _
 have X4 : Hid (RgB (((w.alloc (.cells #[.int .i64 (n : Int), .slice ra m rc] 46)).alloc (.cells #[.int .i64 0, .int .i64 0, .bool false, .slice none 0 0, .slice none 0 0, .bool false, .slice none 0 0, .slice none 0 0] 33)).alloc (.cells #[.int .i64 0, .int .i64 0, .bool false, .slice none 0 0, .slice none 0 0, .bool false, .slice none 0 0, .slice none 0 0] 33)) (w.heap.size + 1) 0 0 Nw.zero Nw.zero) := by
  have := heap_alloc_new (w.alloc (.cells #[.int .i64 (n : Int), .slice ra m rc] 46)) (.cells #[.int .i64 0, .int .i64 0, .bool false, .slice none 0 0, .slice none 0 0, .bool false, .slice none 0 0, .slice none 0 0] 33)
  rw [show (w.alloc (.cells #[.int .i64 (n : Int), .slice ra m rc] 46)).heap.size = w.heap.size + 1 from by simp] at this
  show RgB _ _ _ _ _ _
  unfold RgB
  rw [Below.heap_alloc _ _ _ (by simp)]; exact this
 have X5 : Hid (RgB (((w.alloc (.cells #[.int .i64 (n : Int), .slice ra m rc] 46)).alloc (.cells #[.int .i64 0, .int .i64 0, .bool false, .slice none 0 0, .slice none 0 0, .bool false, .slice none 0 0, .slice none 0 0] 33)).alloc (.cells #[.int .i64 0, .int .i64 0, .bool false, .slice none 0 0, .slice none 0 0, .bool false, .slice none 0 0, .slice none 0 0] 33)) (w.heap.size + 1 + 1) 0 0 Nw.zero Nw.zero) := by
  have := heap_alloc_new ((w.alloc (.cells #[.int .i64 (n : Int), .slice ra m rc] 46)).alloc (.cells #[.int .i64 0, .int .i64 0, .bool false, .slice none 0 0, .slice none 0 0, .bool false, .slice none 0 0, .slice none 0 0] 33)) (.cells #[.int .i64 0, .int .i64 0, .bool false, .slice none 0 0, .slice none 0 0, .bool false, .slice none 0 0, .slice none 0 0] 33)
  rwa [show ((w.alloc (.cells #[.int .i64 (n : Int), .slice ra m rc] 46)).alloc (.cells #[.int .i64 0, .int .i64 0, .bool false, .slice none 0 0, .slice none 0 0, .bool false, .slice none 0 0, .slice none 0 0] 33)).heap.size = w.heap.size + 1 + 1 from by simp] at this
 have H := Lib.hid h; have HX := Lib.hid hx; have HK := Lib.hid hk
 have LI := Lib.hid (h.below B0.out)
 clear h hx
 go_enter Try.func12, Try.ntmps12
 go_upto_region 2 with fail
 generalize ((w.alloc (.cells #[.int .i64 (n : Int), .slice ra m rc] 46)).alloc (.cells #[.int .i64 0, .int .i64 0, .bool false, .slice none 0 0, .slice none 0 0, .bool false, .slice none 0 0, .slice none 0 0] 33)).alloc (.cells #[.int .i64 0, .int .i64 0, .bool false, .slice none 0 0, .slice none 0 0, .bool false, .slice none 0 0, .slice none 0 0] 33) = W0 at *
 obtain ⟨g2, hg2⟩ : ∃ g, w.heap.size = g := ⟨_, rfl⟩
 have G2 : Hid (w.heap.size = g2) := hg2
 rw [hg2] at X2 X4 X5 ⊢
 clear hg2
 have C2 := Lib.hid (lps2_any (rc := rc) LI.out HX.out HK.out)
 obtain ⟨p0, p1⟩ := X2.out.reads
 go_upto_region 3 with (go_at_call 20; refine C2.out.mono ?_; rintro e w2 ⟨u, is, b, M, v, HU, HE, rfl, B2⟩; have HU := Lib.hid HU; have HE := Lib.hid HE; have B2 := Lib.hid B2; clear C2)
 have NB := below_new w2 (.cells #[.bool M.s, .slice M.a M.n M.c, .slice M.b M.m M.d] 26)
 have Y6 : Hid (NQ (w2.alloc (.cells #[.bool M.s, .slice M.a M.n M.c, .slice M.b M.m M.d] 26)) w2.heap.size M) := heap_alloc_new w2 _
 have BB := Below.over B2.out B2.out.size NB
 have HE3 := Lib.hid (HE.out.limb (Limb.of_below NB))
 have X23 := X2.out.keep (BB.block _ X2.out.lt); have X43 := Lib.hid (X4.out.below BB); have X53 := X5.out.below BB
 have BW3 := Lib.hid (Below.over B0.out B0.out.size BB)
 have LI3 := Lib.hid (LI.out.below BB)
 have G6 : Hid (g2 + 1 + 1 < w2.heap.size) := by show _ < _; have := X5.out.lt; have := B2.out.size; omega
 clear NB BB HE B2 B0 X2 X4 X5 LI p0 p1
 generalize w2.alloc (.cells #[.bool M.s, .slice M.a M.n M.c, .slice M.b M.m M.d] 26) = W3 at *
 obtain ⟨g6, hg6⟩ : ∃ g, w2.heap.size = g := ⟨_, rfl⟩
 rw [hg6] at Y6 G6 ⊢
 clear hg6
 obtain ⟨_, y1, _⟩ := X53.reads
 have fz1 := X53.free 1
 have X23 := Lib.hid X23; have X53 := Lib.hid X53
 go_upto_region 4 with (go_at_call 21; refine (skind_any is b _).mono ?_; rintro e w4 ⟨rfl, rfl⟩)
 have O4 := fun c (hc : c ≠ g2 + 1 + 1) => heap_setCell_other W3 ⟨g2 + 1 + 1, 1, none⟩ c (.int .i64 (kindB is b)) hc
 have L4 := X53.out.limb (w' := W3.setCell ⟨g2 + 1 + 1, 1, none⟩ (.int .i64 (kindB is b))) O4
 have B4 := Lib.hid (BW3.out.setCell (p := ⟨g2 + 1 + 1, 1, none⟩) (by have := G2.out; show w.heap.size ≤ g2 + 1 + 1; omega) (.int .i64 (kindB is b)))
 have X24 := Lib.hid (X23.out.keep (O4 g2 (by omega))); have X44 := Lib.hid (X43.out.keep (O4 (g2 + 1) (by omega)))
 have X54 := Lib.hid (X53.out.set1 (kindB is b))
 have Y64 := Lib.hid ((O4 g6 (by have := G6.out; omega)).trans Y6.out)
 have HE4 := Lib.hid (HE3.out.limb L4)
 have KU := Lib.hid HE3.out.kind
 clear L4 O4 X23 X43 X53 Y6 HE3 LI3 BW3 y1 fz1
 generalize W3.setCell ⟨g2 + 1 + 1, 1, none⟩ (.int .i64 (kindB is b)) = W4 at *
 go_upto_if 27 with fail
 refine wp_only (bt_c27 X54.out Y64.out HE4.out rfl fun Hi x28 x29 x30 W5 hX hE hB hL => ?_) (fun _ _ h => h)
 have X55 := Lib.hid hX; have HE5 := Lib.hid hE
 have B5 := Lib.hid (Below.trans B4.out (hB.mono (by have := G2.out; omega)))
 have X25 := Lib.hid (X24.out.keep (hB.block g2 (by omega))); have X45 := Lib.hid (X44.out.keep (hB.block (g2 + 1) (by omega)))
 clear X24 X44 X54 Y64 HE4 B4 hX hE hB hL
 obtain ⟨p0, p1⟩ := X25.out.reads
 have LI5 := H.out.below B5.out
 go_upto_region 6 with fail
 refine wp_only (bt_r6 p1 p0 LI5 HX.out HK.out fun u2 is2 b2 M2 v2 g10 x31 x32 x33 x34 x35 x36 x37 x38 x39 x40 x41 x42 W6 hu hE hY hG hB => ?_) (fun _ _ h => h)
 have HU6 := Lib.hid hu; have HE6 := Lib.hid hE; have Y6 := Lib.hid hY
 have B6 := Lib.hid (Below.over B5.out B5.out.size hB)
 have X46 := Lib.hid (X45.out.below hB); have X56 := X55.out.below hB
 have HEV6 := Lib.hid (HE5.out.limb (Limb.of_below hB))
 have G10 : Hid (g2 + 1 + 1 < g10) := by show _ < _; have := X55.out.lt; omega
 clear p0 p1 LI5 hu hE hY hG hB X25 X45 X55 HE5 B5
 obtain ⟨y1, _⟩ := X56.reads
 have fz1 := X56.free 0
 have X56 := Lib.hid X56
 go_upto_region 8 with (go_at_call 21; refine (skind_any is2 b2 _).mono ?_; rintro e w7 ⟨rfl, rfl⟩)
 have O7 := fun c (hc : c ≠ g2 + 1 + 1) => heap_setCell_other W6 ⟨g2 + 1 + 1, 0, none⟩ c (.int .i64 (kindB is2 b2)) hc
 have L7 := X56.out.limb (w' := W6.setCell ⟨g2 + 1 + 1, 0, none⟩ (.int .i64 (kindB is2 b2))) O7
 have B7 := Lib.hid (B6.out.setCell (p := ⟨g2 + 1 + 1, 0, none⟩) (by have := G2.out; show w.heap.size ≤ g2 + 1 + 1; omega) (.int .i64 (kindB is2 b2)))
 have X47 := Lib.hid (X46.out.keep (O7 (g2 + 1) (by omega)))
 have X57 := Lib.hid (X56.out.set0 (kindB is2 b2))
 have Y7 := Lib.hid ((O7 g10 (by have := G10.out; omega)).trans Y6.out)
 have HE7 := Lib.hid (HE6.out.limb L7)
 have HEV7 := Lib.hid (HEV6.out.limb L7)
 have KL := Lib.hid HE6.out.kind
 clear L7 O7 X46 X56 Y6 HE6 HEV6 B6 y1 fz1
 generalize W6.setCell ⟨g2 + 1 + 1, 0, none⟩ (.int .i64 (kindB is2 b2)) = W7 at *
 go_upto_if 47 with fail
 refine wp_only (bt_c47 X57.out Y7.out HE7.out rfl fun Lo x48 x49 x50 x51 W8 hX hE hB hL => ?_) (fun _ _ h => h)
 have HEL := Lib.hid hE; have HEH := Lib.hid (HEV7.out.limb hL)
 have B8 := Lib.hid (Below.trans B7.out (hB.mono (by have := G2.out; omega)))
 have X48 := X47.out.keep (hB.block (g2 + 1) (by omega))
 obtain ⟨a0, a1, a2, a3, a4, a5, a6, a7⟩ := hX.reads
 obtain ⟨b0, b1, b2', b3, b4, b5, b6, b7⟩ := X48.reads
 have f0 := X48.free 0; have f1 := X48.free 1; have f2 := X48.free 2; have f3 := X48.free 3; have f4 := X48.free 4; have f5 := X48.free 5; have f6 := X48.free 6; have f7 := X48.free 7
 have X48 := Lib.hid X48
 clear X47 X57 Y7 HE7 HEV7 B7 hX hE hB hL
 go_wp2_with fail
 have X49 := X48.out.set8 (kindB is2 b2) (kindB is b) Lo Hi
 have O9 := oth8 (w := W8) (g := g2 + 1) (.int .i64 (kindB is2 b2)) (.int .i64 (kindB is b)) (.bool Lo.s) (.slice Lo.a Lo.n Lo.c) (.slice Lo.b Lo.m Lo.d) (.bool Hi.s) (.slice Hi.a Hi.n Hi.c) (.slice Hi.b Hi.m Hi.d)
 have L9 := X48.out.limb O9
 have B9 := below8 (k0 := w.heap.size) (g := g2 + 1) B8.out (by have := G2.out; omega) (.int .i64 (kindB is2 b2)) (.int .i64 (kindB is b)) (.bool Lo.s) (.slice Lo.a Lo.n Lo.c) (.slice Lo.b Lo.m Lo.d) (.bool Hi.s) (.slice Hi.a Hi.n Hi.c) (.slice Hi.b Hi.m Hi.d)
 obtain ⟨x0, x1, x2, x3, x4, x5, x6, x7⟩ := X49.reads
 refine bodyPost_ret (v := rgV (kindB is2 b2) (kindB is b) Lo Hi) (by simp [results, Try.results12, go_sem, rgV, x0, x1, x2, x3, x4, x5, x6, x7]) rfl ?_
 exact ⟨u, u2, Hi, Lo, HU.out, HU6.out, by rw [KL.out, KU.out], HEL.out.limb L9, HEH.out.limb L9, B9⟩
def cfq (l : List Cf) : List (Nat × Rat) := l.map fun c => (c.var.toNat, rawQ c.by_)
theorem cfq_len (l : List Cf) : (cfq l).length = l.length := List.length_map ..
theorem cfq_get {l : List Cf} {i : Nat} (h : i < l.length) : cq (cfq l) i = ((cf l i).var.toNat, rawQ (cf l i).by_) := by
 unfold cq cfq cf
 rw [List.getD_eq_getElem?_getD, List.getD_eq_getElem?_getD, List.getElem?_map, List.getElem?_eq_getElem h]
 rfl
theorem smallN_zero {R : Raw} (hn : Lm R.num) (hd : Lm R.den) (h : smallN R = 0) : chkN R = 0 ∧ SmQ (rawQ R) := by
 unfold smallN at h
 by_cases c : chkN R = 0
 ·rw [if_neg (by simp [c])] at h
  obtain ⟨f1, f2, _⟩ := rawQ_facts hn hd c
  refine ⟨c, ?_⟩
  by_cases q : 32 < Nh.blen (vl R.num) ∨ 8 < Nh.blen (vl R.den)
  ·rw [if_pos q] at h; omega
  ·refine ⟨?_, ?_⟩
   ·rw [f1]; exact (Nh.blen_le (x := vl R.num) (n := 32)).1 (by omega)
   ·rw [f2]; exact (Nh.blen_le (x := vl R.den) (n := 8)).1 (by omega)
 ·rw [if_pos c] at h; exact absurd h c
theorem coefsTo_all {u : Int} {l : List Cf} : ∀ {n : Nat}, coefsTo u l n = 0 → ∀ i, i < n → coefAt u l i = 0
 | 0, _, i, hi => absurd hi (Nat.not_lt_zero _)
 | n + 1, h, i, hi => by
  have h' : (if coefsTo u l n ≠ 0 then coefsTo u l n else coefAt u l n) = 0 := h
  by_cases c : coefsTo u l n = 0
  ·rw [if_neg (by simp [c])] at h'
   by_cases e : i = n
   ·rw [e]; exact h'
   ·exact coefsTo_all c i (by omega)
  ·rw [if_pos c] at h'; exact absurd h' c
theorem coefAt_zero {u : Int} {l : List Cf} {i : Nat} (h : coefAt u l i = 0) : 0 ≤ (cf l i).var ∧ (cf l i).var < u ∧ (0 < i → (cf l (i - 1)).var < (cf l i).var) ∧ chkN (cf l i).by_ = 0 ∧ (cf l i).by_.num.length ≠ 0 ∧ smallN (cf l i).by_ = 0 := by
 unfold coefAt at h
 split at h
 ·omega
 ·split at h
  ·omega
  ·split at h
   ·omega
   ·split at h
    ·omega
    ·refine ⟨by omega, by omega, fun hi => by omega, by omega, by omega, h⟩
theorem rowN_zero {u rel : Int} {l : List Cf} {B : Raw} (h : rowN u rel l B = 0) : (rel = 1 ∨ rel = 2 ∨ rel = 3) ∧ l.length ≤ 8 ∧ coefsTo u l l.length = 0 ∧ smallN B = 0 := by
 unfold rowN at h
 split at h
 ·omega
 ·split at h
  ·omega
  ·split at h
   ·rename_i q; exact absurd h q
   ·exact ⟨by omega, by omega, by omega, h⟩
theorem CfAt.good {w : World} {l : List Cf} {ca : Option Addr} {n : Nat} (h : CfAt w l ca) (h8 : l.length ≤ 8) (h0 : coefsTo (n : Int) l l.length = 0) : QfAt w (cfq l) ca ∧ GoodC n (cfq l) := by
 have each := coefsTo_all h0
 by_cases e : l = []
 ·subst e
  exact ⟨QfAt.nil w ca, GoodC.nil n⟩
 ·obtain ⟨g, o, e1, k⟩ := h e
  refine ⟨fun _ => ⟨g, o, e1, fun i hi => ?_⟩, by rw [cfq_len]; exact h8, fun i hi => ?_⟩
  ·rw [cfq_len] at hi
   obtain ⟨a, nn, c, b, m, d, c1, c2, c3, c4, r⟩ := k i hi
   obtain ⟨z1, z2, _, z3, _, z4⟩ := coefAt_zero (each i hi)
   rw [cfq_get hi]
   have rr := r.rat z3
   refine ⟨⟨(cf l i).by_.neg, a, nn, c, b, m, d⟩, ?_, c2, c3, c4, rr⟩
   rw [c1]
   show some (Value.int .i64 (cf l i).var) = some (.int .i64 (((cf l i).var.toNat : Nat) : Int))
   rw [Int.toNat_of_nonneg z1]
  ·rw [cfq_len] at hi
   obtain ⟨a, nn, c, b, m, d, c1, c2, c3, c4, r⟩ := k i hi
   obtain ⟨z1, z2, _, z3, _, z4⟩ := coefAt_zero (each i hi)
   rw [cfq_get hi]
   refine ⟨?_, (smallN_zero r.num.lm r.den.lm z4).2⟩
   show (cf l i).var.toNat < n
   omega
/-- A row as it was handed in, as a row of numbers. -/
def rowQ (rel : Int) (l : List Cf) (B : Raw) : Rl := ⟨cfq l, rel, rawQ B⟩
theorem rowN_good {w : World} {rel : Int} {l : List Cf} {B : Raw} {ca a b : Option Addr} {n nn c m d : Nat} (hl : CfAt w l ca) (hB : RwAt w B a nn c b m d) (h : rowN (n : Int) rel l B = 0) : QfAt w (cfq l) ca ∧ (rowQ rel l B).Good n ∧ RA w (rawQ B) ⟨B.neg, a, nn, c, b, m, d⟩ := by
 obtain ⟨_, h8, h0, hb⟩ := rowN_zero h
 obtain ⟨q, g⟩ := hl.good h8 h0
 obtain ⟨z1, z2⟩ := smallN_zero hB.num.lm hB.den.lm hb
 exact ⟨q, ⟨g, z2⟩, hB.rat z1⟩
theorem raw_zero {w : World} {s : Bool} {a b : Option Addr} {n c m d : Nat} (h : RAt w ((0 : Int) : Rat) s a n c b m d) : RwAt w ⟨false, [], [1]⟩ a n c b m d :=
 ⟨by have := h.num; rwa [show (((0 : Int) : Rat)).num.natAbs = 0 from rfl, Nt.toL_zero] at this, by have := h.den; rwa [show (((0 : Int) : Rat)).den = 1 from rfl, show toL 1 = [1] from by rw [toL_pos (by omega)]; simp [Nt.toL_zero]] at this⟩
theorem CfAt.below {w w' : World} {l : List Cf} {ca : Option Addr} (h : CfAt w l ca) (hb : Below w.heap.size w w') : CfAt w' l ca := by
 intro hne
 obtain ⟨g, o, e, k⟩ := h hne
 refine ⟨g, o, e, fun i hi => ?_⟩
 obtain ⟨a, n, c, b, m, d, c0, c1, c2, c3, r⟩ := k i hi
 exact ⟨a, n, c, b, m, d, cell_later hb (Nat.le_refl _) c0, cell_later hb (Nat.le_refl _) c1, cell_later hb (Nat.le_refl _) c2, cell_later hb (Nat.le_refl _) c3, r.below hb⟩
theorem sumFault_any {w : World} {u : Nat} {rv : Value} {ra : Option Addr} {rn rc : Nat} {l : List Cf} {ca : Option Addr} {nc cc : Nat} (h : CfAt w l ca) (hl : l.length = nc) (hc : nc ≤ cc) (hc2 : cc ≤ 9223372036854775807) :
  Calls Try.prog 11 #[.agg #[.int .i64 (u : Int), .slice ra rn rc], .slice ca nc cc] w (CkPost w (rowN (u : Int) 3 l ⟨false, [], [1]⟩)) := by
 have H := Lib.hid h; have HL := Lib.hid hl
 have c1 := hc; have c2 := hc2
 clear h hl hc hc2
 have B0 : Hid (Below w.heap.size w (w.alloc (.cells #[.int .i64 (u : Int), .slice ra rn rc] 46))) := below_new _ _
 have X0 : Hid ((w.alloc (.cells #[.int .i64 (u : Int), .slice ra rn rc] 46)).heap[w.heap.size]? = some (.cells #[.int .i64 (u : Int), .slice ra rn rc] 46 (0, 0))) := heap_alloc_new w _
 go_enter Try.func11, Try.ntmps11
 go_upto_region 1 with fail
 generalize w.alloc (.cells #[.int .i64 (u : Int), .slice ra rn rc] 46) = W at *
 obtain ⟨g2, hg2⟩ : ∃ g2, w.heap.size = g2 := ⟨_, rfl⟩
 rw [hg2] at X0 ⊢
 clear hg2
 have t0 : W.cell? ⟨g2, 0, none⟩ = some (.int .i64 (u : Int)) := by rw [cell_of_row W g2 0 _ _ _ X0.out]; rfl
 have KP := Lib.hid (fun (W' : World) (hB : Below W.heap.size W W') => (show W'.cell? ⟨g2, 0, none⟩ = some (.int .i64 (u : Int)) from cell_later hB (Nat.le_refl _) t0))
 refine Rg.wpD_start 6 [] (fun W' => W'.cell? ⟨g2, 0, none⟩ = some (.int .i64 (u : Int))) (by kernel_rfl) (by kernel_rfl) ?_ (fun hS ok inv => ?_)
 ·exact t0
 refine Rg.tk 0 rfl ok inv hS fun inv => ?_
 refine Rg.tk 3 rfl ok inv hS fun inv => ?_
 refine Rg.tk 4 rfl ok inv hS fun inv => ?_
 refine Rg.w1 1 rfl inv fun K' hK => ?_
 go_simp
 go_at_call 19
 refine (rint_any 0 (by omega) (by omega) _).mono ?_
 rintro e w6 ⟨s6, a6, n6, c6, b6, m6, d6, rfl, L6, B6⟩
 have B6 := undrew B6
 have KS := KP.out w6 B6
 have BW6 := Lib.hid (Below.over B0.out B0.out.size B6)
 have RW : RwAt w6 ⟨false, [], [1]⟩ a6 n6 c6 b6 m6 d6 := raw_zero L6
 have SG : s6 = false := L6.sg
 subst SG
 have C := Lib.hid (row_any (u := (u : Int)) (rel := 3) (H.out.below BW6.out) RW HL.out c1 c2)
 have BK6 := Lib.hid B6
 clear B6 RW L6
 refine Rg.st hK ?_ fun hS inv => ?_
 ·exact KS
 clear hK K'
 refine Rg.tk 2 rfl ok inv hS fun inv => ?_
 refine Rg.w1 5 rfl inv fun K' hK => ?_
 go_simp
 go_at_call 15
 refine (C.out).mono ?_
 rintro e w7 ⟨rfl, B7⟩
 have KS := KP.out w7 (Below.over BK6.out BK6.out.size B7)
 have BW7 := Lib.hid (Below.over BW6.out BW6.out.size B7)
 refine Rg.st hK ?_ fun hS inv => ?_
 ·exact KS
 clear hK K'
 refine Rg.wl rfl ?_
 go_simp
 go_wp2_with fail
 go_ret
 exact ⟨rfl, BW7.out⟩
/-- A system in memory: its pointer's block holds the number of unknowns, the rows and the marks. -/
def SyB (w : World) (p n : Nat) (rv mv : Value) : Prop := w.heap[p]? = some (.cells #[.int .i64 (n : Int), rv, mv] 49 (0, 0))
theorem SyB.reads {w : World} {p n : Nat} {rv mv : Value} (h : SyB w p n rv mv) :
  w.cell? ⟨p, 0, none⟩ = some (.int .i64 (n : Int)) ∧ w.cell? ⟨p, 1, none⟩ = some rv ∧ w.cell? ⟨p, 2, none⟩ = some mv ∧ ∀ i, w.frozen? ⟨p, i, none⟩ = false := by
 refine ⟨?_, ?_, ?_, fun i => by unfold SyB at h; simp [World.frozen?, h]⟩
 ·rw [cell_of_row w p 0 _ _ _ h]; rfl
 ·rw [cell_of_row w p 1 _ _ _ h]; rfl
 ·rw [cell_of_row w p 2 _ _ _ h]; rfl
theorem SyB.lt {w : World} {p n : Nat} {rv mv : Value} (h : SyB w p n rv mv) : p < w.heap.size := (Array.getElem?_eq_some_iff.1 h).1
theorem SyB.below {w w' : World} {p n : Nat} {rv mv : Value} (h : SyB w p n rv mv) (hb : Below w.heap.size w w') : SyB w' p n rv mv := (hb.block p h.lt).trans h
theorem snew_any (w : World) : Calls Try.prog 8 #[] w fun e w' => ∃ p, e = .returned (.pointer (some ⟨p, 0, none⟩)) ∧ w.heap.size ≤ p ∧ SyB w' p 0 (.slice none 0 0) (.slice none 0 0) ∧ Below w.heap.size w w' := by
 go_enter Try.func8, Try.ntmps8
 go_wp2_with fail
 go_ret
 refine ⟨w.heap.size, rfl, Nat.le_refl _, heap_alloc_new w _, below_new w _⟩
theorem clip_any {w : World} {a : Option Addr} {n c : Nat} (h1 : n ≤ c) (h2 : c ≤ 9223372036854775807) : Calls Try.prog 16 #[.slice a n c] w fun e w' => e = .returned (.slice a n n) ∧ w = w' := by
 go_enter Try.func16, Try.ntmps16
 go_wp2_with fail
 go_ret
 exact ⟨rfl, rfl⟩
theorem SyB.set0 {w : World} {p n : Nat} {rv mv : Value} (h : SyB w p n rv mv) : SyB (w.setCell ⟨p, 0, none⟩ (.int .i64 ((n : Int) + 1))) p (n + 1) rv mv := by
 unfold SyB at h ⊢
 simp [World.setCell, Array.getElem?_modify, h]
theorem SyB.set1 {w : World} {p n : Nat} {rv mv : Value} (h : SyB w p n rv mv) (rv' : Value) : SyB (w.setCell ⟨p, 1, none⟩ rv') p n rv' mv := by
 unfold SyB at h ⊢
 simp [World.setCell, Array.getElem?_modify, h]
theorem var_any {w : World} {p n : Nat} {rv mv : Value} (h : SyB w p n rv mv) (hn : n ≤ 24) :
  Calls Try.prog 9 #[.pointer (some ⟨p, 0, none⟩)] w fun e w' =>
   (n = 24 ∧ e = .returned (.tuple #[.int .i64 0, .int .i64 3]) ∧ w' = w) ∨
   (n < 24 ∧ e = .returned (.tuple #[.int .i64 (n : Int), .int .i64 0]) ∧ w' = w.setCell ⟨p, 0, none⟩ (.int .i64 ((n : Int) + 1))) := by
 obtain ⟨p0, p1, p2, fz⟩ := h.reads
 have f0 := fz 0
 clear fz
 have n0 : (0 : Int) ≤ (n : Int) := by omega
 have HS := Lib.hid h
 clear h
 go_enter Try.func9, Try.ntmps9
 by_cases e : n = 24
 ·subst e
  go_wp2_with fail
  refine bodyPost_ret (v := .tuple #[.int .i64 0, .int .i64 3]) (by simp [results, Try.results9, go_sem]) rfl ?_
  exact ⟨rfl, rfl⟩
 ·have n1 : (n : Int) < 24 := by omega
  go_upto_region 4 with fail
  obtain ⟨k0, _⟩ := HS.out.set0.reads
  have p0 : (w.setCell ⟨p, 0, none⟩ (.int .i64 ((n : Int) + 1))).cell? ⟨p, 0, none⟩ = some (.int .i64 ((n : Int) + 1)) := k0
  clear k0
  go_wp2_with fail
  refine bodyPost_ret (v := .tuple #[.int .i64 (n : Int), .int .i64 0]) (by simp [results, Try.results9, go_sem]) rfl ?_
  exact Or.inr ⟨by omega, rfl, rfl⟩
end Go.Proofs.Ytijdglogadnbcaa
