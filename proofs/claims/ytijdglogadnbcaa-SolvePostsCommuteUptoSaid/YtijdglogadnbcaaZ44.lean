/- solve.cloneRow. Printed by genUd.py. -/
import Derived.Test.YtijdglogadnbcaaZ41
import Derived.Test.YtijdglogadnbcaaZ18
import Derived.Test.YtijdglogadnbcaaZ43
set_option linter.unusedVariables false
set_option linter.unusedSimpArgs false
set_option maxRecDepth 100000
set_option maxHeartbeats 40000000
namespace Go.Proofs.Ytijdglogadnbcaa
open Go.RowKit Nt Bl
def ClF (l : List (Nat × Rat)) (i : Nat) : Int × Rat := (((cq l i).1 : Int), (cq l i).2)
def ClL (w : World) (g n : Nat) (l : List (Nat × Rat)) (v : Value) (wr : World) : Prop :=
 ∃ k : Nat, k ≤ n ∧ v = .int .i64 (k : Int) ∧ Below w.heap.size w wr ∧ CfR wr g n k (ClF l)
/-- A row's block. -/
def RoB (w : World) (g : Nat) (vs : Array Value) : Prop := w.heap[g]? = some (.cells vs 28 (0, 0))
theorem RoB.below {w w' : World} {g : Nat} {vs : Array Value} (h : RoB w g vs) (hb : Below w.heap.size w w') : RoB w' g vs := (hb.block g (Array.getElem?_eq_some_iff.1 h).1).trans h
theorem RoB.reads {w : World} {g : Nat} {a b c d e : Value} (h : RoB w g #[a, b, c, d, e]) : w.cell? ⟨g, 0, none⟩ = some a ∧ w.cell? ⟨g, 1, none⟩ = some b ∧ w.cell? ⟨g, 2, none⟩ = some c ∧ w.cell? ⟨g, 3, none⟩ = some d ∧ w.cell? ⟨g, 4, none⟩ = some e ∧ ∀ i, w.frozen? ⟨g, i, none⟩ = false := by
 refine ⟨?_, ?_, ?_, ?_, ?_, fun i => by unfold RoB at h; simp [World.frozen?, h]⟩
 ·rw [cell_of_row w g 0 _ _ _ h]; rfl
 ·rw [cell_of_row w g 1 _ _ _ h]; rfl
 ·rw [cell_of_row w g 2 _ _ _ h]; rfl
 ·rw [cell_of_row w g 3 _ _ _ h]; rfl
 ·rw [cell_of_row w g 4 _ _ _ h]; rfl
theorem RoB.set4 {w : World} {g : Nat} {a b c d e : Value} (h : RoB w g #[a, b, c, d, e]) (p q r s : Value) : RoB ((((w.setCell ⟨g, 0, none⟩ p).setCell ⟨g, 2, none⟩ q).setCell ⟨g, 3, none⟩ r).setCell ⟨g, 4, none⟩ s) g #[p, b, q, r, s] := by
 unfold RoB at h ⊢
 simp [World.setCell, Array.getElem?_modify, h]
theorem RoB.set5 {w : World} {g : Nat} {a b c d e : Value} (h : RoB w g #[a, b, c, d, e]) (p q r s t : Value) : RoB (((((w.setCell ⟨g, 0, none⟩ p).setCell ⟨g, 1, none⟩ q).setCell ⟨g, 2, none⟩ r).setCell ⟨g, 3, none⟩ s).setCell ⟨g, 4, none⟩ t) g #[p, q, r, s, t] := by
 unfold RoB at h ⊢
 simp [World.setCell, Array.getElem?_modify, h]
theorem row_oth4 {w : World} {g b : Nat} (hb : b ≠ g) (p q r s : Value) : ((((w.setCell ⟨g, 0, none⟩ p).setCell ⟨g, 2, none⟩ q).setCell ⟨g, 3, none⟩ r).setCell ⟨g, 4, none⟩ s).heap[b]? = w.heap[b]? := by
 simp [World.setCell, Array.getElem?_modify, hb.symm]
theorem row_oth5 {w : World} {g b : Nat} (hb : b ≠ g) (p q r s t : Value) : (((((w.setCell ⟨g, 0, none⟩ p).setCell ⟨g, 1, none⟩ q).setCell ⟨g, 2, none⟩ r).setCell ⟨g, 3, none⟩ s).setCell ⟨g, 4, none⟩ t).heap[b]? = w.heap[b]? := by
 simp [World.setCell, Array.getElem?_modify, hb.symm]
theorem limb_oth {w w' : World} {g : Nat} (e : ∀ b, b ≠ g → w'.heap[b]? = w.heap[b]?) (hn : ∀ o x, w.cell? ⟨g, o, none⟩ ≠ some (.int .u32 x)) : Limb w w' := fun b o x h => by
 by_cases q : b = g
 ·subst q; exact absurd h (hn o x)
 ·exact (cells_same (e b q) o).trans h
theorem RoB.nou {w : World} {g : Nat} {vs : Array Value} (h : RoB w g vs) (hv : ∀ (i : Nat) (u : Value), vs[i]? = some u → ∀ x : Int, u ≠ Value.int .u32 x) : ∀ o x, w.cell? ⟨g, o, none⟩ ≠ some (.int .u32 x) := fun o x e => by
 rw [cell_of_row w g o _ _ _ h] at e
 exact hv o _ e x rfl
theorem RA.len {w : World} {q : Rat} {N : Nw} {k : Nat} (h : RA w q N) (s : Sz q k) : N.n ≤ k ∧ N.m ≤ k := ⟨by rw [← h.num.len]; exact s.1, by rw [← h.den.len]; exact s.2⟩
theorem cloneRow_any {w : World} {R : Rl} {ca : Option Addr} {n c : Nat} {B : Nw} (h : R5 w R ca c B) (hl : R.cs.length = n) (hn : n ≤ 1000) (hs : ∀ i, i < n → Sz (cq R.cs i).2 1000) (hb : Sz R.bd 1000) :
  Calls Try.prog 17 #[.agg #[.slice ca n c, .int .i64 R.rel, .bool B.s, .slice B.a B.n B.c, .slice B.b B.m B.d]] w fun e w' => ∃ g N', e = .returned (.agg #[.slice (some ⟨g, 0, none⟩) n n, .int .i64 R.rel, .bool N'.s, .slice N'.a N'.n N'.c, .slice N'.b N'.m N'.d]) ∧ w.heap.size ≤ g ∧ R5 w' R (some ⟨g, 0, none⟩) n N' ∧ Below w.heap.size w w' := by
 have H := Lib.hid h.co; have HL := Lib.hid hl; have HS := Lib.hid hs; have HB := Lib.hid hb; have HBD := Lib.hid h.bd
 have c1 : n ≤ c := by rw [← hl]; exact h.le
 have c2 := h.cap
 obtain ⟨i0, hi0, hz0, hz1, hz2⟩ := info_parts info72
 have B0 : Hid (Below w.heap.size w ((w.alloc (.cells #[.slice ca n c, .int .i64 R.rel, .bool B.s, .slice B.a B.n B.c, .slice B.b B.m B.d] 28)).alloc (.cells #[.slice none 0 0, .int .i64 0, .bool false, .slice none 0 0, .slice none 0 0] 28))) := (below_new _ _).alloc (by simp) _
 have X1 : Hid (RoB ((w.alloc (.cells #[.slice ca n c, .int .i64 R.rel, .bool B.s, .slice B.a B.n B.c, .slice B.b B.m B.d] 28)).alloc (.cells #[.slice none 0 0, .int .i64 0, .bool false, .slice none 0 0, .slice none 0 0] 28)) w.heap.size #[.slice ca n c, .int .i64 R.rel, .bool B.s, .slice B.a B.n B.c, .slice B.b B.m B.d]) := by
  show RoB _ _ _
  unfold RoB
  rw [Below.heap_alloc _ _ _ (by simp)]; exact heap_alloc_new w _
 have X2 : Hid (RoB ((w.alloc (.cells #[.slice ca n c, .int .i64 R.rel, .bool B.s, .slice B.a B.n B.c, .slice B.b B.m B.d] 28)).alloc (.cells #[.slice none 0 0, .int .i64 0, .bool false, .slice none 0 0, .slice none 0 0] 28)) (w.heap.size + 1) #[.slice none 0 0, .int .i64 0, .bool false, .slice none 0 0, .slice none 0 0]) := by
  have := heap_alloc_new (w.alloc (.cells #[.slice ca n c, .int .i64 R.rel, .bool B.s, .slice B.a B.n B.c, .slice B.b B.m B.d] 28)) (.cells #[.slice none 0 0, .int .i64 0, .bool false, .slice none 0 0, .slice none 0 0] 28)
  rwa [show (w.alloc (.cells #[.slice ca n c, .int .i64 R.rel, .bool B.s, .slice B.a B.n B.c, .slice B.b B.m B.d] 28)).heap.size = w.heap.size + 1 from by simp] at this
 clear h hl hs hb
 go_enter Try.func17, Try.ntmps17
 go_upto_region 1 with fail
 generalize (w.alloc (.cells #[.slice ca n c, .int .i64 R.rel, .bool B.s, .slice B.a B.n B.c, .slice B.b B.m B.d] 28)).alloc (.cells #[.slice none 0 0, .int .i64 0, .bool false, .slice none 0 0, .slice none 0 0] 28) = W0 at *
 obtain ⟨g1, hg1⟩ : ∃ g1, w.heap.size = g1 := ⟨_, rfl⟩
 have HG1 := Lib.hid hg1
 rw [hg1] at X1 X2 ⊢
 clear hg1
 obtain ⟨u0, u1, u2, u3, u4, _⟩ := X1.out.reads
 go_wp2_with (at_make; refine wpList_make_full _ rfl _ _ 23 rfl W0.heap.size 54 i0 _ 4 Try.underlying23 hi0 hz0 hz1 .i64 .i64 _ _ n rfl rfl (by omega) (by omega) (by rw [hz2]; omega) (by unfold maxLen; omega) (Nat.le_refl _) ?_; intro w1 hown1 hgr1; obtain ⟨cf1, ge1⟩ := CfR.made (f := ClF R.cs) hown1; have C1 := Lib.hid cf1; have B1 := Lib.hid (below_grown hgr1); have Y1 := X1.out.below B1.out; have Y2 := Lib.hid (X2.out.below B1.out); obtain ⟨u0, u1, u2, u3, u4, _⟩ := Y1.reads; clear hown1 hgr1 cf1 ge1)
 obtain ⟨g, hg⟩ : ∃ g, W0.heap.size = g := ⟨_, rfl⟩
 have HGE : Hid (W0.heap.size = g) := hg
 rw [hg] at C1 ⊢
 clear hg u0 u1 u2 u3 u4
 go_loopw [13] (fun v wr => ClL W0 g n R.cs v wr) (fun v _ => n - (intOf v).toNat)
 case atStart => exact ⟨0, Nat.zero_le _, rfl, B1.out, C1.out⟩
 case round =>
  clear C1 B1 Y2
  obtain ⟨k, hk, rfl, hB, hC⟩ := hrel
  have BR := Lib.hid hB; have CF := Lib.hid hC
  clear hB hC
  by_cases hlt : k < n
  ·obtain ⟨g0, o, rfl, kk⟩ := H.out (by intro e; have := HL.out; rw [e] at this; simp at this; omega)
   obtain ⟨N, p0, p1, p2, p3, rq⟩ := kk k (by rw [HL.out]; exact hlt)
   have SQ := HS.out k hlt
   obtain ⟨x, hx⟩ : ∃ x, (cq R.cs k).1 = x := ⟨_, rfl⟩
   obtain ⟨q, hq⟩ : ∃ q, (cq R.cs k).2 = q := ⟨_, rfl⟩
   rw [hx] at p0
   rw [hq] at rq SQ
   have FE : Hid (ClF R.cs k = ((x : Int), q)) := by show _ = _; unfold ClF; rw [hx, hq]
   have BWr := Below.over B0.out B0.out.size BR.out
   have p0 := cell_later BWr (Nat.le_refl _) p0; have p1 := cell_later BWr (Nat.le_refl _) p1
   have p2 := cell_later BWr (Nat.le_refl _) p2; have p3 := cell_later BWr (Nat.le_refl _) p3
   have rq := RAt.below rq BWr
   have ln := RA.len (N := N) rq SQ
   have BN := below_new wr (.cells #[.int .i64 (x : Int), .bool N.s, .slice N.a N.n N.c, .slice N.b N.m N.d] 54)
   have X5 : Hid ((wr.alloc (.cells #[.int .i64 (x : Int), .bool N.s, .slice N.a N.n N.c, .slice N.b N.m N.d] 54)).heap[wr.heap.size]? = some (.cells #[.int .i64 (x : Int), .bool N.s, .slice N.a N.n N.c, .slice N.b N.m N.d] 54 (0, 0))) := heap_alloc_new wr _
   have CF5 := Lib.hid (CF.out.below BN)
   have BW5 := Lib.hid (Below.over BR.out BR.out.size BN)
   have C := Lib.hid (cloneNum_any (M := N) (RAt.below (RAt.below rq BN) (Below.refl (wr.alloc (.cells #[.int .i64 (x : Int), .bool N.s, .slice N.a N.n N.c, .slice N.b N.m N.d] 54)).heap.size _).drew) ⟨by omega, by omega⟩)
   have k0 : (0 : Int) ≤ (k : Int) := by omega
   have k1 : (k : Int) < (n : Int) := by omega
   clear kk hx hq rq BN ln SQ BWr
   go_upto_region 5 with fail
   clear p0 p1 p2 p3
   generalize wr.alloc (.cells #[.int .i64 (x : Int), .bool N.s, .slice N.a N.n N.c, .slice N.b N.m N.d] 54) = W at *
   obtain ⟨g5, hg5⟩ : ∃ g5, wr.heap.size = g5 := ⟨_, rfl⟩
   rw [hg5] at X5 ⊢
   have t0 : W.cell? ⟨g5, 0, none⟩ = some (.int .i64 (x : Int)) := by rw [cell_of_row W g5 0 _ _ _ X5.out]; rfl
   have t1 : W.cell? ⟨g5, 1, none⟩ = some (.bool N.s) := by rw [cell_of_row W g5 1 _ _ _ X5.out]; rfl
   have t2 : W.cell? ⟨g5, 2, none⟩ = some (.slice N.a N.n N.c) := by rw [cell_of_row W g5 2 _ _ _ X5.out]; rfl
   have t3 : W.cell? ⟨g5, 3, none⟩ = some (.slice N.b N.m N.d) := by rw [cell_of_row W g5 3 _ _ _ X5.out]; rfl
   have KP := Lib.hid (fun (W' : World) (hB : Below W.heap.size W W') => (show W'.cell? ⟨g5, 0, none⟩ = some (.int .i64 (x : Int)) ∧ W'.cell? ⟨g5, 1, none⟩ = some (.bool N.s) ∧ W'.cell? ⟨g5, 2, none⟩ = some (.slice N.a N.n N.c) ∧ W'.cell? ⟨g5, 3, none⟩ = some (.slice N.b N.m N.d) from ⟨cell_later hB (Nat.le_refl _) t0, cell_later hB (Nat.le_refl _) t1, cell_later hB (Nat.le_refl _) t2, cell_later hB (Nat.le_refl _) t3⟩))
   clear hg5 CF BR
   refine Rg.wpD_start 9 [] (fun W' => W'.cell? ⟨g5, 0, none⟩ = some (.int .i64 (x : Int)) ∧ W'.cell? ⟨g5, 1, none⟩ = some (.bool N.s) ∧ W'.cell? ⟨g5, 2, none⟩ = some (.slice N.a N.n N.c) ∧ W'.cell? ⟨g5, 3, none⟩ = some (.slice N.b N.m N.d)) (by kernel_rfl) (by kernel_rfl) ?_ (fun hS ok inv => ?_)
   ·exact ⟨t0, t1, t2, t3⟩
   refine Rg.tk 0 rfl ok inv hS fun inv => ?_
   refine Rg.tk 1 rfl ok inv hS fun inv => ?_
   refine Rg.tk 2 rfl ok inv hS fun inv => ?_
   refine Rg.tk 3 rfl ok inv hS fun inv => ?_
   refine Rg.tk 4 rfl ok inv hS fun inv => ?_
   refine Rg.tk 5 rfl ok inv hS fun inv => ?_
   refine Rg.w1 6 rfl inv fun K' hK => ?_
   go_simp
   go_at_call 22
   refine (C.out).mono ?_
   rintro e w6 ⟨s6, a6, n6, c6, b6, m6, d6, rfl, L6, B6⟩
   have B6 := undrew B6
   have KS := KP.out w6 B6
   have R6 := Lib.hid (CF5.out.below B6)
   have BW6 := Lib.hid (Below.over BW5.out BW5.out.size B6)
   have L6 : Hid (RA w6 q ⟨s6, a6, n6, c6, b6, m6, d6⟩) := L6
   obtain ⟨y, N0, cc4, _⟩ := R6.out.at_ k hlt
   have z0 := cc4 0 (by omega); have z1 := cc4 1 (by omega); have z2 := cc4 2 (by omega); have z3 := cc4 3 (by omega)
   have f0 := R6.out.blk.free (k * 4); have f1 := R6.out.blk.free (k * 4 + 1); have f2 := R6.out.blk.free (k * 4 + 2); have f3 := R6.out.blk.free (k * 4 + 3)
   rw [Nat.add_zero] at z0
   simp only [cf4, List.getElem?_cons_zero, List.getElem?_cons_succ] at z0 z1 z2 z3
   clear B6 cc4
   refine Rg.st hK ?_ fun hS inv => ?_
   ·exact KS
   clear hK K'
   refine Rg.tk 7 rfl ok inv hS fun inv => ?_
   refine Rg.tk 8 rfl ok inv hS fun inv => ?_
   refine Rg.wl rfl ?_
   go_simp
   have WR := R6.out.wr hlt (x : Int) ⟨s6, a6, n6, c6, b6, m6, d6⟩
   have BE := WR.bel W0.heap.size W0 (Nat.le_of_eq HGE.out) BW6.out
   have CN := R6.out.set (M := ⟨s6, a6, n6, c6, b6, m6, d6⟩) hlt (by rw [FE.out]; exact WR) (by rw [FE.out]; exact L6.out)
   have BE := Lib.hid BE; have CN := Lib.hid CN
   clear WR
   go_wp2_with fail
   go_roundw
   case rel => exact ⟨k + 1, hlt, by go_num, BE.out, CN.out⟩
   case measure => simp [intOf]; omega
  ·obtain rfl : n = k := by omega
   have Q := Lib.hid (CF.out.full (l := R.cs) HL.out (fun i hi => rfl))
   have Y1 := Lib.hid (X1.out.below BR.out)
   have Y2 := Lib.hid (X2.out.below BR.out)
   obtain ⟨u0, u1, u2, u3, u4, fz⟩ := Y1.out.reads
   have fz0 := fz 0; have fz2 := fz 2; have fz3 := fz 3; have fz4 := fz 4
   clear fz
   have BWr := Below.over B0.out B0.out.size BR.out
   have ln := RA.len (N := B) HBD.out HB.out
   have C := Lib.hid (cloneNum_any (M := B) (RAt.below HBD.out BWr) ⟨by omega, by omega⟩)
   clear BWr ln
   go_upto_region 8 with (go_at_call 22; refine C.out.mono ?_; rintro e w7 ⟨s7, a7, n7, c7, b7, m7, d7, rfl, L7, B7⟩; have Z1 := Y1.out.below B7; have Z2 := Lib.hid (Y2.out.below B7); have CF7 := Lib.hid (CF.out.below B7); have L7 : Hid (RA w7 R.bd ⟨s7, a7, n7, c7, b7, m7, d7⟩) := L7; have BW7 := Lib.hid (Below.over BR.out BR.out.size B7); clear u0 u1 u2 u3 u4 fz0 fz2 fz3 fz4 C B7; obtain ⟨u0, u1, u2, u3, u4, fz⟩ := Z1.reads; have fz0 := fz 0; have fz2 := fz 2; have fz3 := fz 3; have fz4 := fz 4; have Z1 := Lib.hid Z1; clear fz)
   have NE1 : Hid (g ≠ g1 ∧ g ≠ g1 + 1) := by
    show _ ∧ _
    have q1 := X1.out; have q2 := X2.out
    have l1 := (Array.getElem?_eq_some_iff.1 q1).1
    have l2 := (Array.getElem?_eq_some_iff.1 q2).1
    have := HGE.out
    omega
   have Y4 := Z1.out.set4 (.slice (some ⟨g, 0, none⟩) n n) (.bool s7) (.slice a7 n7 c7) (.slice b7 m7 d7)
   have O4 := fun b (hb : b ≠ g1) => row_oth4 (w := w7) hb (.slice (some ⟨g, 0, none⟩) n n) (.bool s7) (.slice a7 n7 c7) (.slice b7 m7 d7)
   have BB := Below.over B0.out B0.out.size BW7.out
   have BE : Below w.heap.size w ((((w7.setCell ⟨g1, 0, none⟩ (.slice (some ⟨g, 0, none⟩) n n)).setCell ⟨g1, 2, none⟩ (.bool s7)).setCell ⟨g1, 3, none⟩ (.slice a7 n7 c7)).setCell ⟨g1, 4, none⟩ (.slice b7 m7 d7)) := (((BB.setCell (by exact Nat.le_of_eq HG1.out) _).setCell (by exact Nat.le_of_eq HG1.out) _).setCell (by exact Nat.le_of_eq HG1.out) _).setCell (by exact Nat.le_of_eq HG1.out) _
   generalize ((((w7.setCell ⟨g1, 0, none⟩ (.slice (some ⟨g, 0, none⟩) n n)).setCell ⟨g1, 2, none⟩ (.bool s7)).setCell ⟨g1, 3, none⟩ (.slice a7 n7 c7)).setCell ⟨g1, 4, none⟩ (.slice b7 m7 d7)) = W8 at *
   have L4 : Limb w7 W8 := limb_oth O4 (Z1.out.nou (by
    intro i u hu x e
    subst e
    rcases i with _ | _ | _ | _ | _ | i <;> simp at hu))
   have Z8 : RoB W8 (g1 + 1) #[.slice none 0 0, .int .i64 0, .bool false, .slice none 0 0, .slice none 0 0] := (O4 (g1 + 1) (by omega)).trans Z2.out
   have CF8 := CF7.out.keep (O4 g NE1.out.1) L4
   have L8 : RA W8 R.bd ⟨s7, a7, n7, c7, b7, m7, d7⟩ := RA.limb L7 L4
   obtain ⟨u0, u1, u2, u3, u4, _⟩ := Y4.reads
   obtain ⟨y0, y1, y2, y3, y4, fz⟩ := Z8.reads
   have fz0 := fz 0; have fz1 := fz 1; have fz2 := fz 2; have fz3 := fz 3; have fz4 := fz 4
   have Y4 := Lib.hid Y4; have Z8 := Lib.hid Z8; have CF8 := Lib.hid CF8; have L8 := Lib.hid L8; have BE := Lib.hid BE
   clear fz O4 L4 BB L7
   go_wp2_with fail
   have Y9 := Z8.out.set5 (.slice (some ⟨g, 0, none⟩) n n) (.int .i64 R.rel) (.bool s7) (.slice a7 n7 c7) (.slice b7 m7 d7)
   have O9 := fun b (hb : b ≠ g1 + 1) => row_oth5 (w := W8) hb (.slice (some ⟨g, 0, none⟩) n n) (.int .i64 R.rel) (.bool s7) (.slice a7 n7 c7) (.slice b7 m7 d7)
   have hge : w.heap.size ≤ g1 + 1 := by have := HG1.out; omega
   have B9 : Below w.heap.size w (((((W8.setCell ⟨g1 + 1, 0, none⟩ (.slice (some ⟨g, 0, none⟩) n n)).setCell ⟨g1 + 1, 1, none⟩ (.int .i64 R.rel)).setCell ⟨g1 + 1, 2, none⟩ (.bool s7)).setCell ⟨g1 + 1, 3, none⟩ (.slice a7 n7 c7)).setCell ⟨g1 + 1, 4, none⟩ (.slice b7 m7 d7)) := ((((BE.out.setCell (by exact hge) _).setCell (by exact hge) _).setCell (by exact hge) _).setCell (by exact hge) _).setCell (by exact hge) _
   have L9 : Limb W8 (((((W8.setCell ⟨g1 + 1, 0, none⟩ (.slice (some ⟨g, 0, none⟩) n n)).setCell ⟨g1 + 1, 1, none⟩ (.int .i64 R.rel)).setCell ⟨g1 + 1, 2, none⟩ (.bool s7)).setCell ⟨g1 + 1, 3, none⟩ (.slice a7 n7 c7)).setCell ⟨g1 + 1, 4, none⟩ (.slice b7 m7 d7)) := limb_oth O9 (Z8.out.nou (by
    intro i u hu x e
    subst e
    rcases i with _ | _ | _ | _ | _ | i <;> simp at hu))
   have CF9 := CF8.out.keep (O9 g NE1.out.2) L9
   have R9 : RA (((((W8.setCell ⟨g1 + 1, 0, none⟩ (.slice (some ⟨g, 0, none⟩) n n)).setCell ⟨g1 + 1, 1, none⟩ (.int .i64 R.rel)).setCell ⟨g1 + 1, 2, none⟩ (.bool s7)).setCell ⟨g1 + 1, 3, none⟩ (.slice a7 n7 c7)).setCell ⟨g1 + 1, 4, none⟩ (.slice b7 m7 d7)) R.bd ⟨s7, a7, n7, c7, b7, m7, d7⟩ := RA.limb L8.out L9
   obtain ⟨x0, x1, x2, x3, x4, _⟩ := Y9.reads
   refine bodyPost_ret (v := .agg #[.slice (some ⟨g, 0, none⟩) n n, .int .i64 R.rel, .bool s7, .slice a7 n7 c7, .slice b7 m7 d7]) (by simp [results, Try.results17, go_sem, x0, x1, x2, x3, x4]) rfl ?_
   exact ⟨g, ⟨s7, a7, n7, c7, b7, m7, d7⟩, rfl, by have := HGE.out; have := B0.out.size; omega, ⟨CF9.full HL.out (fun i hi => rfl), Nat.le_of_eq HL.out, by omega, R9⟩, B9⟩
def negC (l : List (Nat × Rat)) : List (Nat × Rat) := l.map fun c => (c.1, -c.2)
theorem negC_len (l : List (Nat × Rat)) : (negC l).length = l.length := List.length_map ..
theorem negC_get {l : List (Nat × Rat)} {i : Nat} (h : i < l.length) : cq (negC l) i = ((cq l i).1, -(cq l i).2) := by
 unfold cq negC
 rw [List.getD_eq_getElem?_getD, List.getD_eq_getElem?_getD, List.getElem?_map, List.getElem?_eq_getElem h]
 rfl
def TuF (l : List (Nat × Rat)) (i : Nat) : Int × Rat := (((cq l i).1 : Int), -(cq l i).2)
def TuL (w : World) (g n : Nat) (l : List (Nat × Rat)) (v11 : Value) (wr : World) : Prop :=
 ∃ k : Nat, k ≤ n ∧ v11 = .int .i64 (k : Int) ∧ Below w.heap.size w wr ∧ CfR wr g n k (TuF l)
theorem turned_any {w : World} {l : List (Nat × Rat)} {ca : Option Addr} {n c : Nat} (h : QfAt w l ca) (hl : l.length = n) (hc : n ≤ c ∧ c ≤ 9223372036854775807) (hn : n ≤ 1000) :
  Calls Try.prog 23 #[.slice ca n c] w fun e w' => ∃ g, e = .returned (.slice (some ⟨g, 0, none⟩) n n) ∧ QfAt w' (negC l) (some ⟨g, 0, none⟩) ∧ Below w.heap.size w w' := by
 have H := Lib.hid h; have HL := Lib.hid hl
 obtain ⟨c1, c2⟩ := hc
 clear h hl
 obtain ⟨i0, hi0, hz0, hz1, hz2⟩ := info_parts info72
 go_enter Try.func23, Try.ntmps23
 go_wp2_with (at_make; refine wpList_make_full _ rfl _ _ 23 rfl w.heap.size 54 i0 _ 4 Try.underlying23 hi0 hz0 hz1 .i64 .i64 _ _ n rfl rfl (by omega) (by omega) (by rw [hz2]; omega) (by unfold maxLen; omega) (Nat.le_refl _) ?_; intro w1 hown1 hg1; obtain ⟨cf1, ge1⟩ := CfR.made (f := TuF l) hown1; have C1 := Lib.hid cf1; have GE := Lib.hid ge1; have B1 := Lib.hid (below_grown hg1); clear hown1 hg1 cf1 ge1)
 obtain ⟨g, hg⟩ : ∃ g, w.heap.size = g := ⟨_, rfl⟩
 have HGE : Hid (w.heap.size = g) := hg
 rw [hg] at C1 ⊢
 clear hg GE
 go_loopw [11] (fun v11 wr => TuL w g n l v11 wr) (fun v _ => n - (intOf v).toNat)
 case atStart => exact ⟨0, Nat.zero_le _, rfl, B1.out, C1.out⟩
 case round =>
  clear C1 B1
  obtain ⟨k, hk, rfl, hB, hC⟩ := hrel
  have BR := Lib.hid hB; have CF := Lib.hid hC
  clear hB hC
  by_cases hlt : k < n
  ·obtain ⟨g0, o, rfl, kk⟩ := H.out (by intro e; have := HL.out; rw [e] at this; simp at this; omega)
   obtain ⟨N, p0, p1, p2, p3, rq⟩ := kk k (by rw [HL.out]; exact hlt)
   obtain ⟨x, hx⟩ : ∃ x, (cq l k).1 = x := ⟨_, rfl⟩
   obtain ⟨q, hq⟩ : ∃ q, (cq l k).2 = q := ⟨_, rfl⟩
   rw [hx] at p0
   rw [hq] at rq
   have FE : Hid (TuF l k = ((x : Int), -q)) := by show _ = _; unfold TuF; rw [hx, hq]
   have p0 := cell_later BR.out (Nat.le_refl _) p0; have p1 := cell_later BR.out (Nat.le_refl _) p1
   have p2 := cell_later BR.out (Nat.le_refl _) p2; have p3 := cell_later BR.out (Nat.le_refl _) p3
   have rq := RAt.below rq BR.out
   have BN := below_new wr (.cells #[.int .i64 (x : Int), .bool N.s, .slice N.a N.n N.c, .slice N.b N.m N.d] 54)
   have X5 : Hid ((wr.alloc (.cells #[.int .i64 (x : Int), .bool N.s, .slice N.a N.n N.c, .slice N.b N.m N.d] 54)).heap[wr.heap.size]? = some (.cells #[.int .i64 (x : Int), .bool N.s, .slice N.a N.n N.c, .slice N.b N.m N.d] 54 (0, 0))) := heap_alloc_new wr _
   have CF5 := Lib.hid (CF.out.below BN)
   have BW5 := Lib.hid (Below.over BR.out BR.out.size BN)
   have C := Lib.hid (rneg_any (RAt.below (RAt.below rq BN) (Below.refl (wr.alloc (.cells #[.int .i64 (x : Int), .bool N.s, .slice N.a N.n N.c, .slice N.b N.m N.d] 54)).heap.size _).drew))
   have k0 : (0 : Int) ≤ (k : Int) := by omega
   have k1 : (k : Int) < (n : Int) := by omega
   clear kk hx hq rq BN
   go_upto_region 5 with fail
   clear p0 p1 p2 p3
   generalize wr.alloc (.cells #[.int .i64 (x : Int), .bool N.s, .slice N.a N.n N.c, .slice N.b N.m N.d] 54) = W at *
   obtain ⟨g5, hg5⟩ : ∃ g5, wr.heap.size = g5 := ⟨_, rfl⟩
   rw [hg5] at X5 ⊢
   have t0 : W.cell? ⟨g5, 0, none⟩ = some (.int .i64 (x : Int)) := by rw [cell_of_row W g5 0 _ _ _ X5.out]; rfl
   have t1 : W.cell? ⟨g5, 1, none⟩ = some (.bool N.s) := by rw [cell_of_row W g5 1 _ _ _ X5.out]; rfl
   have t2 : W.cell? ⟨g5, 2, none⟩ = some (.slice N.a N.n N.c) := by rw [cell_of_row W g5 2 _ _ _ X5.out]; rfl
   have t3 : W.cell? ⟨g5, 3, none⟩ = some (.slice N.b N.m N.d) := by rw [cell_of_row W g5 3 _ _ _ X5.out]; rfl
   have KP := Lib.hid (fun (W' : World) (hB : Below W.heap.size W W') => (show W'.cell? ⟨g5, 0, none⟩ = some (.int .i64 (x : Int)) ∧ W'.cell? ⟨g5, 1, none⟩ = some (.bool N.s) ∧ W'.cell? ⟨g5, 2, none⟩ = some (.slice N.a N.n N.c) ∧ W'.cell? ⟨g5, 3, none⟩ = some (.slice N.b N.m N.d) from ⟨cell_later hB (Nat.le_refl _) t0, cell_later hB (Nat.le_refl _) t1, cell_later hB (Nat.le_refl _) t2, cell_later hB (Nat.le_refl _) t3⟩))
   clear hg5 CF BR
   refine Rg.wpD_start 9 [] (fun W' => W'.cell? ⟨g5, 0, none⟩ = some (.int .i64 (x : Int)) ∧ W'.cell? ⟨g5, 1, none⟩ = some (.bool N.s) ∧ W'.cell? ⟨g5, 2, none⟩ = some (.slice N.a N.n N.c) ∧ W'.cell? ⟨g5, 3, none⟩ = some (.slice N.b N.m N.d)) (by kernel_rfl) (by kernel_rfl) ?_ (fun hS ok inv => ?_)
   ·exact ⟨t0, t1, t2, t3⟩
   refine Rg.tk 0 rfl ok inv hS fun inv => ?_
   refine Rg.tk 1 rfl ok inv hS fun inv => ?_
   refine Rg.tk 2 rfl ok inv hS fun inv => ?_
   refine Rg.tk 3 rfl ok inv hS fun inv => ?_
   refine Rg.tk 4 rfl ok inv hS fun inv => ?_
   refine Rg.tk 5 rfl ok inv hS fun inv => ?_
   refine Rg.w1 6 rfl inv fun K' hK => ?_
   go_simp
   go_at_call 24
   refine (C.out).mono ?_
   rintro e w6 ⟨s6, a6, n6, c6, b6, m6, d6, rfl, L6, B6⟩
   have B6 := undrew B6
   have KS := KP.out w6 B6
   have R6 := Lib.hid (CF5.out.below B6)
   have BW6 := Lib.hid (Below.over BW5.out BW5.out.size B6)
   have L6 : Hid (RA w6 (-q) ⟨s6, a6, n6, c6, b6, m6, d6⟩) := L6
   obtain ⟨y, N0, cc4, _⟩ := R6.out.at_ k hlt
   have z0 := cc4 0 (by omega); have z1 := cc4 1 (by omega); have z2 := cc4 2 (by omega); have z3 := cc4 3 (by omega)
   have f0 := R6.out.blk.free (k * 4); have f1 := R6.out.blk.free (k * 4 + 1); have f2 := R6.out.blk.free (k * 4 + 2); have f3 := R6.out.blk.free (k * 4 + 3)
   rw [Nat.add_zero] at z0
   simp only [cf4, List.getElem?_cons_zero, List.getElem?_cons_succ] at z0 z1 z2 z3
   clear B6 cc4
   refine Rg.st hK ?_ fun hS inv => ?_
   ·exact KS
   clear hK K'
   refine Rg.tk 7 rfl ok inv hS fun inv => ?_
   refine Rg.tk 8 rfl ok inv hS fun inv => ?_
   refine Rg.wl rfl ?_
   go_simp
   have WR := R6.out.wr hlt (x : Int) ⟨s6, a6, n6, c6, b6, m6, d6⟩
   have BE := WR.bel w.heap.size w (Nat.le_of_eq HGE.out) BW6.out
   have CN := R6.out.set (M := ⟨s6, a6, n6, c6, b6, m6, d6⟩) hlt (by rw [FE.out]; exact WR) (by rw [FE.out]; exact L6.out)
   have BE := Lib.hid BE; have CN := Lib.hid CN
   clear WR
   go_wp2_with fail
   go_roundw
   case rel => exact ⟨k + 1, hlt, by go_num, BE.out, CN.out⟩
   case measure => simp [intOf]; omega
  ·obtain rfl : n = k := by omega
   have Q := CF.out.full (l := negC l) (by rw [negC_len, HL.out]) (fun i hi => by rw [negC_get (by rw [HL.out]; exact hi)]; rfl)
   have Q := Lib.hid Q
   go_wp2_with fail
   go_ret
   exact ⟨_, rfl, Q.out, BR.out⟩
end Go.Proofs.Ytijdglogadnbcaa
