/- Post, listed, Label, labelled given the rule. -/
import Derived.Test.YteiohgiecpibhaaGreatMJ
set_option linter.unusedVariables false
set_option linter.unusedSimpArgs false
set_option maxRecDepth 100000
set_option maxHeartbeats 4000000
namespace Go.Proofs.YteiohgiecpibhaaGreat
open Go.RowKit Fdm

def PoS (wr : World) (D' : List Dm) (v6 v7 : Value) (W : World) : Prop :=
  ∃ g6 a c pa pc, v6 = .pointer (some ⟨g6, 0, none⟩) ∧ v7 = .bool true ∧ wr.heap.size ≤ g6 ∧ W.heap[g6]? = some (.cells #[.slice a 2 c, .slice pa 1 pc] 86 (0, 0)) ∧ 2 ≤ c ∧ c ≤ 9223372036854775807 ∧ 1 ≤ pc ∧ pc ≤ 9223372036854775807 ∧ PsV W exP (.slice pa 1 pc) ∧ DsK W D' a ∧ Below wr.heap.size wr W
theorem PsV.caps {w : World} {P : List Con} {a : Option Addr} {n c : Nat} (h : PsV w P (.slice a n c)) : n ≤ c ∧ c ≤ 9223372036854775807 := by
  obtain ⟨a', c', e, h1, h2, _⟩ := h.ex
  simp only [Value.slice.injEq] at e
  obtain ⟨rfl, rfl, rfl⟩ := e
  exact ⟨h1, h2⟩
theorem PoS.of {wr w7 W9 : World} {g10 : Nat} {D' : List Dm} {a a' : Option Addr} {c c' : Nat} (hb : Below wr.heap.size wr w7) (hg : wr.heap.size ≤ g10) (h0 : w7.heap[g10]? = some (.cells #[.slice none 0 0, .slice none 0 0] 86 (0, 0)))
    (hW : ((w7.setCell ⟨g10, 0, none⟩ (.slice a 2 c)).setCell ⟨g10, 1, none⟩ (.slice a' 1 c')) = W9) (l1 : 2 ≤ c) (l2 : c ≤ 9223372036854775807) (hp : PsV w7 exP (.slice a' 1 c')) (hd : DsK w7 D' a) : PoS wr D' (.pointer (some ⟨g10, 0, none⟩)) (.bool true) W9 ∧ Below wr.heap.size wr W9 := by
  have B9 : Below wr.heap.size wr W9 := by rw [← hW]; exact below_set2 hb hg _ _
  have k : KpX 86 w7 W9 := fun b ty x ht => by rw [← hW]; exact oth_set2 (fun e => (x.ne (e ▸ ⟨_, h0⟩) ht) rfl) _ _
  have pc := hp.caps
  exact ⟨⟨g10, a, c, a', c', rfl, rfl, hg, by rw [← hW]; exact set2 h0, l1, l2, pc.1, pc.2, hp.kx k (by decide) (by decide) (by decide), hd.kx k (by decide) (by decide), B9⟩, B9⟩
theorem nest2_but (w : World) (g : Nat) (x0 x1 : Value) : But g w ((w.setCell ⟨g, 0, none⟩ x0).setCell ⟨g, 1, none⟩ x1) := (But.setCell _ _ _ _).trans (But.setCell _ _ _ _)
theorem row3b {w : World} {g : Nat} {c0 c1 c2 x y : Value} {t : Nat} (h : w.heap[g]? = some (.cells #[c0, c1, c2] t (0, 0))) : ((w.setCell ⟨g, 0, none⟩ x).setCell ⟨g, 1, none⟩ y).heap[g]? = some (.cells #[x, y, c2] t (0, 0)) := by
  simp [World.setCell, Array.getElem?_modify, h]
def PtPost (w : World) (p : Nat) (D' : List Dm) (e : Ending) (w' : World) : Prop := e = .returned (.int .i64 0) ∧ StoB w' p D' exP ∧ But p w w' ∧ D'.length = 2
theorem post_any {w : World} {p g f : Nat} {D D' : List Dm} (h : StoB w p D []) (hn : D.length = 2) (h0 : w.cell? ⟨g, 0, none⟩ = some (.int .i64 0)) (h1 : w.cell? ⟨g, 1, none⟩ = some (.int .i64 1)) (hst : stF exRu exG exP f D [] 0 = some (D', true)) (hR : ∀ D, exG exC D = true → RuOk exRu exC D) :
    Calls Tryz.prog 39 #[.pointer (some ⟨p, 0, none⟩), exV g] w (PtPost w p D') := by
  obtain ⟨R, hRr⟩ : ∃ R : Ending → World → Prop, R = PtPost w p D' := ⟨_, rfl⟩
  rw [← hRr]
  have HR := Lib.hid hRr
  obtain ⟨a, c, pa, pc, m0, m1, m2, row, q1, q2, q3, q4, hD, hP⟩ := h.ex
  rw [hn] at row q1
  have D2 : Hid (D'.length = 2) := (stN_len hst).trans hn
  have NE : Hid (D ≠ []) := by rintro rfl; simp at hn
  have row : w.heap[p]? = some (.cells #[.slice a 2 c, .slice pa 0 pc, .slice m0 m1 m2] 89 (0, 0)) := row
  have ROW := Lib.hid row; have DK := Lib.hid hD; have DN := Lib.hid hn; have ST := Lib.hid hst; have RU := Lib.hid hR
  have H0 := Lib.hid h0; have H1 := Lib.hid h1
  obtain ⟨w1, hw1⟩ : ∃ w1, w.alloc (.cells #[.int .i64 3, .slice (some ⟨g, 0, none⟩) 2 2, .slice none 0 0, .slice none 0 0, .int .i64 0, .int .i64 0, .slice none 0 0] 33) = w1 := ⟨_, rfl⟩
  have B1 : Hid (Below w.heap.size w w1) := by show _; rw [← hw1]; exact below_new _ _
  have I1 : Hid (w1.heap[w.heap.size]? = some (.cells #[.int .i64 3, .slice (some ⟨g, 0, none⟩) 2 2, .slice none 0 0, .slice none 0 0, .int .i64 0, .int .i64 0, .slice none 0 0] 33 (0, 0))) := by show _; rw [← hw1]; exact heap_alloc_new _ _
  have R1 : Hid (w1.heap[p]? = some (.cells #[.slice a 2 c, .slice pa 0 pc, .slice m0 m1 m2] 89 (0, 0))) := (B1.out.block _ (Array.getElem?_eq_some_iff.1 row).1).trans row
  have LT : Hid (p < w.heap.size) := (Array.getElem?_eq_some_iff.1 row).1
  have LT1 : Hid (w.heap.size < w1.heap.size) := (Array.getElem?_eq_some_iff.1 I1.out).1
  clear h hD hP hn hst hR hRr row h0 h1
  unfold exV
  go_enter Tryz.func39, Tryz.ntmps39
  go_upto_region 1 with fail
  try rw [hw1]
  clear hw1
  have i1 := I1.out
  have r1 := R1.out
  have k0 : w1.cell? ⟨w.heap.size, 0, none⟩ = some (.int .i64 3) := by rw [cell_of_row _ _ _ _ _ _ i1]; rfl
  have k1 : w1.cell? ⟨w.heap.size, 1, none⟩ = some (.slice (some ⟨g, 0, none⟩) 2 2) := by rw [cell_of_row _ _ _ _ _ _ i1]; rfl
  have k2 : w1.cell? ⟨w.heap.size, 2, none⟩ = some (.slice none 0 0) := by rw [cell_of_row _ _ _ _ _ _ i1]; rfl
  have k3 : w1.cell? ⟨w.heap.size, 3, none⟩ = some (.slice none 0 0) := by rw [cell_of_row _ _ _ _ _ _ i1]; rfl
  have k4 : w1.cell? ⟨w.heap.size, 4, none⟩ = some (.int .i64 0) := by rw [cell_of_row _ _ _ _ _ _ i1]; rfl
  have k5 : w1.cell? ⟨w.heap.size, 5, none⟩ = some (.int .i64 0) := by rw [cell_of_row _ _ _ _ _ _ i1]; rfl
  have k6 : w1.cell? ⟨w.heap.size, 6, none⟩ = some (.slice none 0 0) := by rw [cell_of_row _ _ _ _ _ _ i1]; rfl
  have s0 : w1.cell? ⟨p, 0, none⟩ = some (.slice a 2 c) := by rw [cell_of_row _ _ _ _ _ _ r1]; rfl
  have s1 : w1.cell? ⟨p, 1, none⟩ = some (.slice pa 0 pc) := by rw [cell_of_row _ _ _ _ _ _ r1]; rfl
  have g0 := cell_later B1.out (Nat.le_refl _) H0.out
  have g1 := cell_later B1.out (Nat.le_refl _) H1.out
  clear i1 r1
  refine Rg.s0 8 [] fun W hW => ?_
  refine Rg.t 0 ?_
  refine Rg.t 1 ?_
  refine Rg.t 2 ?_
  refine Rg.t 3 ?_
  refine Rg.t 4 ?_
  refine Rg.t 5 ?_
  refine Rg.t 6 ?_
  refine Rg.c1 7 fun K' hK => ?_
  (try simp only [zA, zB, zC])
  go_simp
  refine (check3 (g := g) (cell_later hW (Nat.le_refl _) g0) (cell_later hW (Nat.le_refl _) g1)).mono ?_
  rintro e w2 ⟨rfl, b2⟩
  refine Rg.e1 hK (over hW b2) ?_
  have B2 := Lib.hid (over hW b2)
  clear hK K' hW b2
  refine Rg.l1 ?_
  (try simp only [zA, zB, zC])
  go_simp
  have i2 : w2.heap[w.heap.size]? = some (.cells #[.int .i64 3, .slice (some ⟨g, 0, none⟩) 2 2, .slice none 0 0, .slice none 0 0, .int .i64 0, .int .i64 0, .slice none 0 0] 33 (0, 0)) := (B2.out.block _ LT1.out).trans I1.out
  have r2 : w2.heap[p]? = some (.cells #[.slice a 2 c, .slice pa 0 pc, .slice m0 m1 m2] 89 (0, 0)) := (B2.out.block _ (by have := LT1.out; have := LT.out; omega)).trans R1.out
  have k0 : w2.cell? ⟨w.heap.size, 0, none⟩ = some (.int .i64 3) := by rw [cell_of_row _ _ _ _ _ _ i2]; rfl
  have k1 : w2.cell? ⟨w.heap.size, 1, none⟩ = some (.slice (some ⟨g, 0, none⟩) 2 2) := by rw [cell_of_row _ _ _ _ _ _ i2]; rfl
  have k2 : w2.cell? ⟨w.heap.size, 2, none⟩ = some (.slice none 0 0) := by rw [cell_of_row _ _ _ _ _ _ i2]; rfl
  have k3 : w2.cell? ⟨w.heap.size, 3, none⟩ = some (.slice none 0 0) := by rw [cell_of_row _ _ _ _ _ _ i2]; rfl
  have k4 : w2.cell? ⟨w.heap.size, 4, none⟩ = some (.int .i64 0) := by rw [cell_of_row _ _ _ _ _ _ i2]; rfl
  have k5 : w2.cell? ⟨w.heap.size, 5, none⟩ = some (.int .i64 0) := by rw [cell_of_row _ _ _ _ _ _ i2]; rfl
  have k6 : w2.cell? ⟨w.heap.size, 6, none⟩ = some (.slice none 0 0) := by rw [cell_of_row _ _ _ _ _ _ i2]; rfl
  have s0 : w2.cell? ⟨p, 0, none⟩ = some (.slice a 2 c) := by rw [cell_of_row _ _ _ _ _ _ r2]; rfl
  have s1 : w2.cell? ⟨p, 1, none⟩ = some (.slice pa 0 pc) := by rw [cell_of_row _ _ _ _ _ _ r2]; rfl
  have R2 := Lib.hid r2
  clear i2 r2
  go_upto_region 6 with fail
  have BW2 : Hid (Below w.heap.size w w2) := over B1.out B2.out
  have PO : Hid (∀ W, Below w2.heap.size w2 W → Calls Tryz.prog 69 #[.agg #[.slice a 2 c, .slice pa 0 pc], exV g] W (PoPost W 2 (D', true))) := fun W hW =>
    post3 ((DK.out.below BW2.out).below hW) NE.out DN.out q1 q2 q4 (by omega) (Nat.le_refl 2) (cell_later (over BW2.out hW) (Nat.le_refl _) H0.out) (cell_later (over BW2.out hW) (Nat.le_refl _) H1.out) ST.out RU.out
  unfold exV at PO
  go_cut [6, 7] (fun v6 v7 W => PoS w2 D' v6 v7 W)
  case first =>
    refine Rg.s0 11 [] fun WD DW => ?_
    refine Rg.t 0 ?_
    refine Rg.t 1 ?_
    refine Rg.t 2 ?_
    refine Rg.t 3 ?_
    refine Rg.t 4 ?_
    refine Rg.c2 5 9 (fun K' hK => ?_) fun K' hK => ?_
    · (try simp only [zA, zB, zC])
      go_simp
      go_at_call 69
      refine (PO.out WD DW).mono ?_
      rintro e wc ⟨⟨na, nc, np, mc, rfl, l1, l2, hp, hd⟩, hb⟩
      have hd := hd rfl
      have Dc := over DW hb
      refine Rg.e1 hK Dc ?_
      clear hK K' hb
      refine Rg.t 6 ?_
      refine Rg.t 7 ?_
      refine Rg.t 8 ?_
      refine Rg.c1 9 fun K' hK => ?_
      have bn := below_new wc (.cells #[.slice none 0 0, .slice none 0 0] 86)
      have h10 := heap_alloc_new wc (.cells #[.slice none 0 0, .slice none 0 0] 86)
      have hg10 : w2.heap.size ≤ wc.heap.size := Dc.size
      have DD := over Dc bn
      have hp := hp.below bn
      have hd := hd.below bn
      (try simp only [zA, zB, zC])
      go_simp
      refine Rg.e1 hK DD ?_
      clear hK K'
      generalize wc.alloc (.cells #[.slice none 0 0, .slice none 0 0] 86) = WW at *
      generalize wc.heap.size = g10 at *
      obtain ⟨W9, hW9⟩ : ∃ W9, ((WW.setCell ⟨g10, 0, none⟩ (.slice na 2 nc)).setCell ⟨g10, 1, none⟩ (.slice np 1 mc)) = W9 := ⟨_, rfl⟩
      have FIN := Lib.hid (PoS.of DD hg10 h10 hW9 l1 l2 hp hd)
      have z0 : WW.cell? ⟨g10, 0, none⟩ = some (.slice none 0 0) := by rw [cell_of_row _ _ _ _ _ _ h10]; rfl
      have z1 : WW.cell? ⟨g10, 1, none⟩ = some (.slice none 0 0) := by rw [cell_of_row _ _ _ _ _ _ h10]; rfl
      have fz0 : WW.frozen? ⟨g10, 0, none⟩ = false := by simp [World.frozen?, h10]
      have fz1 : WW.frozen? ⟨g10, 1, none⟩ = false := by simp [World.frozen?, h10]
      refine Rg.c1 10 fun K' hK => ?_
      (try simp only [zA, zB, zC])
      go_simp
      refine Rg.e1 hK FIN.out.2 ?_
      clear hK K' z0 z1 fz0 fz1 hW9 h10
      refine Rg.l1 ?_
      go_simp
      go_wp2_with fail
      go_meet
      case rel => exact FIN.out.1
    · have bn := below_new WD (.cells #[.slice none 0 0, .slice none 0 0] 86)
      have h10 := heap_alloc_new WD (.cells #[.slice none 0 0, .slice none 0 0] 86)
      have hg10 : w2.heap.size ≤ WD.heap.size := DW.size
      have Da := over DW bn
      (try simp only [zA, zB, zC])
      go_simp
      refine Rg.e1 hK Da ?_
      clear hK K'
      generalize WD.alloc (.cells #[.slice none 0 0, .slice none 0 0] 86) = wa at *
      generalize WD.heap.size = g10 at *
      refine Rg.c1 5 fun K' hK => ?_
      (try simp only [zA, zB, zC])
      go_simp
      go_at_call 69
      refine (PO.out wa Da).mono ?_
      rintro e WW ⟨⟨na, nc, np, mc, rfl, l1, l2, hp, hd⟩, hb⟩
      have hd := hd rfl
      have DD := over Da hb
      have h10 := (hb.block g10 (Array.getElem?_eq_some_iff.1 h10).1).trans h10
      refine Rg.e1 hK DD ?_
      clear hK K' hb
      refine Rg.t 6 ?_
      refine Rg.t 7 ?_
      refine Rg.t 8 ?_
      obtain ⟨W9, hW9⟩ : ∃ W9, ((WW.setCell ⟨g10, 0, none⟩ (.slice na 2 nc)).setCell ⟨g10, 1, none⟩ (.slice np 1 mc)) = W9 := ⟨_, rfl⟩
      have FIN := Lib.hid (PoS.of DD hg10 h10 hW9 l1 l2 hp hd)
      have z0 : WW.cell? ⟨g10, 0, none⟩ = some (.slice none 0 0) := by rw [cell_of_row _ _ _ _ _ _ h10]; rfl
      have z1 : WW.cell? ⟨g10, 1, none⟩ = some (.slice none 0 0) := by rw [cell_of_row _ _ _ _ _ _ h10]; rfl
      have fz0 : WW.frozen? ⟨g10, 0, none⟩ = false := by simp [World.frozen?, h10]
      have fz1 : WW.frozen? ⟨g10, 1, none⟩ = false := by simp [World.frozen?, h10]
      refine Rg.c1 10 fun K' hK => ?_
      (try simp only [zA, zB, zC])
      go_simp
      refine Rg.e1 hK FIN.out.2 ?_
      clear hK K' z0 z1 fz0 fz1 hW9 h10
      refine Rg.l1 ?_
      go_simp
      go_wp2_with fail
      go_meet
      case rel => exact FIN.out.1
  case rest =>
    obtain ⟨g6, na, nc, np, mc, rfl, rfl, hg6, h6, l1, l2, l3, l4, hp, hd, hb⟩ := hcut
    have R3 : wc.heap[p]? = some (.cells #[.slice a 2 c, .slice pa 0 pc, .slice m0 m1 m2] 89 (0, 0)) := (hb.block _ (Array.getElem?_eq_some_iff.1 R2.out).1).trans R2.out
    have HP := Lib.hid hp; have HD := Lib.hid hd; have B3 := Lib.hid hb; have R3H := Lib.hid R3; have H6 := Lib.hid h6
    clear hp hd hb
    have e0 : wc.cell? ⟨g6, 0, none⟩ = some (.slice na 2 nc) := by rw [cell_of_row _ _ _ _ _ _ h6]; rfl
    have e1 : wc.cell? ⟨g6, 1, none⟩ = some (.slice np 1 mc) := by rw [cell_of_row _ _ _ _ _ _ h6]; rfl
    have t0 : wc.cell? ⟨p, 0, none⟩ = some (.slice a 2 c) := by rw [cell_of_row _ _ _ _ _ _ R3]; rfl
    have t1 : wc.cell? ⟨p, 1, none⟩ = some (.slice pa 0 pc) := by rw [cell_of_row _ _ _ _ _ _ R3]; rfl
    have t2 : wc.cell? ⟨p, 2, none⟩ = some (.slice m0 m1 m2) := by rw [cell_of_row _ _ _ _ _ _ R3]; rfl
    have fz0 : wc.frozen? ⟨p, 0, none⟩ = false := by simp [World.frozen?, R3]
    have fz1 : wc.frozen? ⟨p, 1, none⟩ = false := by simp [World.frozen?, R3]
    clear R3 h6
    obtain ⟨w4, hw4⟩ : ∃ w4, ((wc.setCell ⟨p, 0, none⟩ (.slice na 2 nc)).setCell ⟨p, 1, none⟩ (.slice np 1 mc)) = w4 := ⟨_, rfl⟩
    have R4 : Hid (w4.heap[p]? = some (.cells #[.slice na 2 nc, .slice np 1 mc, .slice m0 m1 m2] 89 (0, 0))) := by show _ = _; rw [← hw4]; exact row3b R3H.out
    have BU : Hid (But p wc w4) := by show But _ _ _; rw [← hw4]; exact nest2_but _ _ _ _
    go_simp
    go_wp2_with fail
    rw [HR.out]
    have kx := BU.out.kpx (t := 89) ⟨_, R3H.out⟩
    exact ⟨rfl, ⟨na, nc, np, mc, m0, m1, m2, by rw [D2.out]; exact R4.out, by rw [D2.out]; exact l1, l2, l3, l4, HD.out.kx kx (by decide) (by decide), HP.out.kx kx (by decide) (by decide) (by decide)⟩, (But.of_below (over BW2.out B3.out)).trans BU.out, D2.out⟩
end Go.Proofs.YteiohgiecpibhaaGreat
set_option linter.unusedVariables false
set_option linter.unusedSimpArgs false
set_option maxRecDepth 100000
set_option maxHeartbeats 4000000
namespace Go.Proofs.YteiohgiecpibhaaGreat
open Go.RowKit Fdm

theorem listed3 {g : Nat} {w : World} {a pa : Option Addr} {c pc : Nat} (h0 : w.cell? ⟨g, 0, none⟩ = some (.int .i64 0)) (h1 : w.cell? ⟨g, 1, none⟩ = some (.int .i64 1)) :
    Calls Tryz.prog 62 #[.agg #[.slice a 2 c, .slice pa 1 pc], .slice (some ⟨g, 0, none⟩) 2 2, .int .i64 0, .int .i64 0] w fun e w' => e = .returned (.int .i64 0) ∧ Below w.heap.size w w' := by
  obtain ⟨w1, hw1⟩ : ∃ w1, (w.alloc (.cells #[.slice a 2 c, .slice pa 1 pc] 86)) = w1 := ⟨_, rfl⟩
  have B1 : Hid (Below w.heap.size w w1) := by show _; rw [← hw1]; exact below_new _ _
  have I1 : Hid (w1.heap[w.heap.size]? = some (.cells #[.slice a 2 c, .slice pa 1 pc] 86 (0, 0))) := by show _; rw [← hw1]; exact heap_alloc_new _ _
  have H0 := Lib.hid h0; have H1 := Lib.hid h1
  clear h0 h1
  go_enter Tryz.func62, Tryz.ntmps62
  go_upto_region 1 with fail
  try rw [hw1]
  have b0 : w1.cell? ⟨w.heap.size, 0, none⟩ = some (.slice a 2 c) := by rw [cell_of_row _ _ _ _ _ _ I1.out]; rfl
  clear hw1
  have g0 : w1.cell? ⟨g, 0, none⟩ = some (.int .i64 0) := cell_later B1.out (Nat.le_refl _) H0.out
  have g1 : w1.cell? ⟨g, 1, none⟩ = some (.int .i64 1) := cell_later B1.out (Nat.le_refl _) H1.out
  have K0 := Lib.hid (contains_any (l := []) (a := some ⟨g, 0, none⟩) (n := 0) (c := 2) (w := w1) 0 (fun h => absurd rfl h) rfl (by omega) (by omega))
  have K1 := Lib.hid (contains_any (l := [0]) (a := some ⟨g, 0, none⟩) (n := 1) (c := 2) (w := w1) 1 (fun _ => ⟨g, 0, rfl, fun i hi => by (have : i = 0 := by simpa using hi); subst this; exact g0⟩) rfl (by omega) (by omega))
  go_wp2_with fail
  refine wp_loop_rounds 3 ?_
  rw [rounds_succ]
  go_wp2_with (go_at_call 56; refine K0.out.mono ?_; rintro e w' ⟨rfl, hw⟩; have hw := hw.symm; subst hw)
  rw [rounds_succ]
  go_wp2_with (go_at_call 56; refine K1.out.mono ?_; rintro e w' ⟨rfl, hw⟩; have hw := hw.symm; subst hw)
  rw [rounds_succ]
  go_wp2_with fail
  go_ret
  exact ⟨rfl, B1.out⟩
end Go.Proofs.YteiohgiecpibhaaGreat
set_option linter.unusedVariables false
set_option linter.unusedSimpArgs false
set_option maxRecDepth 100000
set_option maxHeartbeats 4000000
namespace Go.Proofs.YteiohgiecpibhaaGreat
open Go.RowKit Fdm

def LaPost (w : World) (F : List (List Int)) (e : Ending) (w' : World) : Prop := ∃ v base, e = .returned (.tuple #[v, .int .i64 0]) ∧ FoO w' base v F ∧ Below w.heap.size w w'
theorem label_any {w : World} {p g gq f : Nat} {D : List Dm} {s' : Sea} (h : StoB w p D exP) (hn : D.length = 2) (h0 : w.cell? ⟨g, 0, none⟩ = some (.int .i64 0)) (h1 : w.cell? ⟨g, 1, none⟩ = some (.int .i64 1)) (E : Env exRu exG exP 2) (hst : fromN exRu exG exP [0, 1] 10 gq f D ⟨[], 100, false⟩ = some s') (hout : s'.out = false) :
    Calls Tryz.prog 33 #[.pointer (some ⟨p, 0, none⟩), .slice (some ⟨g, 0, none⟩) 2 2, .int .i64 0, .int .i64 0, .int .i64 10, .int .i64 100] w (LaPost w s'.found) := by
  obtain ⟨R, hRr⟩ : ∃ R : Ending → World → Prop, R = LaPost w s'.found := ⟨_, rfl⟩
  rw [← hRr]
  have HR := Lib.hid hRr
  obtain ⟨a, c, pa, pc, m0, m1, m2, row, q1, q2, q3, q4, hD, hP⟩ := h.ex
  rw [hn] at row q1
  have row : w.heap[p]? = some (.cells #[.slice a 2 c, .slice pa 1 pc, .slice m0 m1 m2] 89 (0, 0)) := row
  have hP : PsV w exP (.slice pa 1 pc) := hP
  have q3 : 1 ≤ pc := q3
  have ROW := Lib.hid row; have DK := Lib.hid hD; have DN := Lib.hid hn; have ST := Lib.hid hst; have EN := Lib.hid E; have OUT := Lib.hid hout; have PS := Lib.hid hP
  have H0 := Lib.hid h0; have H1 := Lib.hid h1
  have s0 : w.cell? ⟨p, 0, none⟩ = some (.slice a 2 c) := by rw [cell_of_row _ _ _ _ _ _ row]; rfl
  have s1 : w.cell? ⟨p, 1, none⟩ = some (.slice pa 1 pc) := by rw [cell_of_row _ _ _ _ _ _ row]; rfl
  have LI := Lib.hid (listed3 (a := a) (pa := pa) (c := c) (pc := pc) h0 h1)
  clear h hD hP hn hst hRr row h0 h1 E hout
  go_enter Tryz.func33, Tryz.ntmps33
  go_upto_region 2 with (go_at_call 62; refine LI.out.mono ?_; rintro e w2 ⟨rfl, hb⟩; have B2 := Lib.hid hb; clear hb)
  go_upto_region 6 with fail
  have CL : Hid (Calls Tryz.prog 63 #[.slice (some ⟨g, 0, none⟩) 2 2] w2 fun e w' => ∃ va vc, e = .returned (.slice va 2 vc) ∧ InV w' [0, 1] (.slice va 2 vc) ∧ Below w2.heap.size w2 w') := by
    refine (clone63 (vs := [.int .i64 0, .int .i64 1]) (n := 2) rfl (by simp [Value.oneCell']) (fun _ => ⟨g, 0, rfl, fun j u hu => ?_⟩) (by omega)).mono ?_
    · match j, hu with
      | 0, hu => rw [← hu]; exact cell_later B2.out (Nat.le_refl _) H0.out
      | 1, hu => rw [← hu]; exact cell_later B2.out (Nat.le_refl _) H1.out
    · rintro e w3 ⟨v1, rfl, o1, b3⟩
      obtain ⟨p1, q1, rfl, V1⟩ := own_in (l := [0, 1]) o1 rfl (by omega)
      exact ⟨p1, q1, rfl, V1, b3⟩
  clear s0 s1
  go_upto_region 7 with (go_at_call 63; refine CL.out.mono ?_; rintro e w3 ⟨va, vc, rfl, hv, hb⟩; have VA := Lib.hid hv; have B3 := Lib.hid hb; clear hv hb)
  obtain ⟨gr, hgr⟩ : ∃ gr, w3.heap.size = gr := ⟨_, rfl⟩
  obtain ⟨w4, hw4⟩ : ∃ w4, w3.alloc (.cells #[.slice va 2 vc, .int .i64 0, .int .i64 0, .int .i64 10, .int .i64 100, .slice none 0 0, .bool false] 94) = w4 := ⟨_, rfl⟩
  have J4 : Hid (w4.heap[gr]? = some (.cells #[.slice va 2 vc, .int .i64 0, .int .i64 0, .int .i64 10, .int .i64 100, .slice none 0 0, .bool false] 94 (0, 0))) := by show _; rw [← hw4, ← hgr]; exact heap_alloc_new _ _
  have B34 : Hid (Below w3.heap.size w3 w4) := by show _; rw [← hw4]; exact below_new _ _
  have GR := Lib.hid hgr
  rw [hw4, hgr]
  clear hw4 hgr
  have BW3 : Hid (Below w.heap.size w w3) := over B2.out B3.out
  have BW4 : Hid (Below w.heap.size w w4) := over BW3.out B34.out
  have r4 : w4.heap[p]? = some (.cells #[.slice a 2 c, .slice pa 1 pc, .slice m0 m1 m2] 89 (0, 0)) := (BW4.out.block _ (Array.getElem?_eq_some_iff.1 ROW.out).1).trans ROW.out
  have s0 : w4.cell? ⟨p, 0, none⟩ = some (.slice a 2 c) := by rw [cell_of_row _ _ _ _ _ _ r4]; rfl
  have s1 : w4.cell? ⟨p, 1, none⟩ = some (.slice pa 1 pc) := by rw [cell_of_row _ _ _ _ _ _ r4]; rfl
  clear r4
  have CO : Hid (Calls Tryz.prog 65 #[.agg #[.slice a 2 c, .slice pa 1 pc]] w4 fun e w' => ∃ gd gc, e = .returned (.agg #[.slice (some ⟨gd, 0, none⟩) 2 gc, .slice pa 1 1]) ∧ 2 ≤ gc ∧ gc ≤ 9223372036854775807 ∧ DsG w' gd D ∧ Below w4.heap.size w4 w') :=
    (copied_any (pa := pa) (pn := 1) (DK.out.below BW4.out).a DN.out q1 q2 q3 q4 (by omega)).mono (by
      rintro e w' ⟨v, rfl, ⟨a, c, rfl, l1, l2, k⟩, hb⟩
      have hn := DN.out
      obtain ⟨g', rfl, q1, q2⟩ := k (by rintro rfl; simp at hn)
      exact ⟨g', c, by rw [hn], by rw [← hn]; exact l1, l2, q2, hb⟩)
  have FR : Hid (∀ (w5 : World) (gd gc : Nat), 2 ≤ gc → gc ≤ 9223372036854775807 → DsG w5 gd D → Below w4.heap.size w4 w5 → Calls Tryz.prog 64 #[.pointer (some ⟨gr, 0, none⟩), .agg #[.slice (some ⟨gd, 0, none⟩) 2 gc, .slice pa 1 1]] w5 (FrPost w3.heap.size gr (.slice va 2 vc) (.slice none 0 0) 10 s' w5)) := fun w5 gd gc l1 l2 hd hb =>
    from_any (w0 := w3) (n := 2) (np := 1) (pc := pc) (nv := 2) (cv := vc) (gr := gr) (most := 10) (va := va) (P := exP) (vs := [0, 1]) (ru := exRu) (G := exG) (by omega) (PS.out.below BW3.out) (Nat.le_of_eq GR.out) (by
      obtain ⟨a', c', e, _, _, hB⟩ := VA.out.ex
      simp only [Value.slice.injEq] at e
      obtain ⟨rfl, _, _⟩ := e
      exact hB.a) rfl (by obtain ⟨a', c', e, l1, l2, _⟩ := VA.out.ex; simp only [Value.slice.injEq] at e; obtain ⟨_, e, rfl⟩ := e; exact l1) (by obtain ⟨a', c', e, l1, l2, _⟩ := VA.out.ex; simp only [Value.slice.injEq] at e; obtain ⟨_, _, rfl⟩ := e; exact l2) (by omega) (fun i hi => by
      have hi : i < 2 := hi
      match i, hi with
      | 0, _ => exact ⟨rfl, by decide⟩
      | 1, _ => exact ⟨rfl, by decide⟩) EN.out (by omega) f hd.k DN.out l1 l2 (Nat.le_refl _) (by omega) (over B34.out hb) ⟨(hb.block _ (Array.getElem?_eq_some_iff.1 J4.out).1).trans J4.out, FoO.nil _ _⟩ (by simp) (by decide) ST.out
  go_upto_region 8 with (first
    | (go_at_call 65; refine CO.out.mono ?_; rintro e w5 ⟨gd, gc, rfl, l1, l2, hd, hb⟩; have HD := Lib.hid hd; have B5 := Lib.hid hb; clear hd hb)
    | (go_at_call 64; refine (FR.out _ _ _ l1 l2 HD.out B5.out).mono ?_; rintro e w6 ⟨rfl, vf, hs, hl, hf⟩; have HS := Lib.hid hs; have HF := Lib.hid hf; clear hs hl hf))
  have r6 := HS.out.row
  rw [OUT.out] at r6
  have c5 : w6.cell? ⟨gr, 5, none⟩ = some vf := by rw [cell_of_row _ _ _ _ _ _ r6]; rfl
  have c6 : w6.cell? ⟨gr, 6, none⟩ = some (.bool false) := by rw [cell_of_row _ _ _ _ _ _ r6]; rfl
  clear r6
  go_wp2_with fail
  rw [HR.out]
  have b5 := over BW4.out B5.out
  exact ⟨_, _, rfl, HS.out.fo, HF.out.below (by have := BW3.out.size; have := GR.out; omega) (fun g e => by simp [Value.ownBlock] at e) b5.size b5⟩
end Go.Proofs.YteiohgiecpibhaaGreat
set_option linter.unusedVariables false
set_option linter.unusedSimpArgs false
set_option maxRecDepth 100000
set_option maxHeartbeats 4000000
namespace Go.Proofs.YteiohgiecpibhaaGreat
open Go.RowKit Fdm

theorem StoB.below {w w' : World} {p : Nat} {D : List Dm} {P : List Con} (h : StoB w p D P) (hb : Below w.heap.size w w') : StoB w' p D P := by
  obtain ⟨a, c, pa, pc, m0, m1, m2, row, k1, k2, k3, k4, hD, hP⟩ := h.ex
  exact ⟨a, c, pa, pc, m0, m1, m2, (hb.block _ (Array.getElem?_eq_some_iff.1 row).1).trans row, k1, k2, k3, k4, hD.below hb, hP.below hb⟩
/-- A domain of one span that was just built. -/
theorem DmS.one {w : World} {lo hi : Int} : DmS (w.alloc (.cells #[.int .i64 lo, .int .i64 hi] 63)) [(lo, hi)] (some ⟨w.heap.size, 0, none⟩) 1 1 := by
  have hh := heap_alloc_new w (.cells #[.int .i64 lo, .int .i64 hi] 63)
  refine ⟨fun _ => ⟨_, 0, rfl, fun i hi => ?_⟩, rfl, Nat.le_refl _, by omega⟩
  obtain rfl : i = 0 := by simpa using hi
  exact ⟨by rw [cell_of_row _ _ _ _ _ _ hh]; rfl, by rw [cell_of_row _ _ _ _ _ _ hh]; rfl⟩
theorem exE (hR : ∀ D, exG exC D = true → RuOk exRu exC D) : Env exRu exG exP 2 := ⟨fun i hi => by
    obtain rfl : i = 0 := by simpa [exP] using hi
    refine ⟨fun i hi => ?_, by decide⟩
    have hi : i < 2 := hi
    match i, hi with
    | 0, _ => exact ⟨rfl, by decide⟩
    | 1, _ => exact ⟨rfl, by decide⟩, by decide, fun i D hi hg => by
    obtain rfl : i = 0 := by simpa [exP] using hi
    exact hR D hg⟩
/-- Six found in memory: the first and the last. -/
theorem FoO.six {w : World} {base : Nat} {v : Value} {F : List (List Int)} (h : FoO w base v F) (hl : F.length = 6) : ∃ g c, v = .slice (some ⟨g, 0, none⟩) 6 c ∧ ∀ i, i < 6 → ∃ u, w.cell? ⟨g, i, none⟩ = some u ∧ InV w (F.getD i []) u := by
  obtain ⟨us, o, ul, uk⟩ := h
  rw [hl] at o
  rcases o.own.2 with ⟨_, h0⟩ | ⟨g, cap, cur, rfl, hb, hg, hnc, hcm, hcs, htake⟩
  · omega
  · refine ⟨g, cap, rfl, fun i hi => ?_⟩
    obtain ⟨u, p, q⟩ := uk i (by omega)
    refine ⟨u, ?_, q⟩
    have := o.own.cellAt (g := g) (j := i) (by omega)
    rw [← p]; simpa using this
theorem InV.two {w : World} {x y : Int} {u : Value} (h : InV w [x, y] u) : ∃ g o c, u = .slice (some ⟨g, o, none⟩) 2 c ∧ w.cell? ⟨g, o, none⟩ = some (.int .i64 x) ∧ w.cell? ⟨g, o + 1, none⟩ = some (.int .i64 y) := by
  obtain ⟨a, c, rfl, _, _, q⟩ := h.ex
  obtain ⟨g, o, rfl, _, k⟩ := q (by simp)
  exact ⟨g, o, c, rfl, k 0 (by simp), k 1 (by simp)⟩
theorem labelled_any (hR : ∀ D, exG exC D = true → RuOk exRu exC D) (w : World) : Calls Tryz.prog 14 #[] w fun e w' => e = .returned (.bool true) ∧ Below w.heap.size w w' := by
  have RU := Lib.hid hR
  clear hR
  go_enter Tryz.func14, Tryz.ntmps14
  go_upto_region 2 with (go_at_call 37; refine (new_any w).mono ?_; rintro e w1 ⟨rfl, hs, hb⟩; have S1 := Lib.hid hs; have B1 := Lib.hid hb; clear hs hb)
  have V1 : Hid (Calls Tryz.prog 38 #[.pointer (some ⟨w.heap.size, 0, none⟩), .slice (some ⟨w1.heap.size, 0, none⟩) 1 1] (w1.alloc (.cells #[.int .i64 0, .int .i64 2] 63)) fun e w' => e = .returned (.tuple #[.int .i64 0, .int .i64 0]) ∧ StoB w' w.heap.size [[(0, 2)]] [] ∧ Below w.heap.size w w') :=
    (var_any (d := [(0, 2)]) (S1.out.below (below_new _ _)) DmS.one (by decide) (by decide)).mono fun e w' h => ⟨h.1, h.2.1, h.2.2.below (Nat.le_refl _) (by have := B1.out.size; simp; omega) (over B1.out (below_new _ _))⟩
  go_upto_region 3 with (go_at_call 38; refine V1.out.mono ?_; rintro e w2 ⟨rfl, hs, hb⟩; have S2 := Lib.hid hs; have B2 := Lib.hid hb; clear hs hb)
  have V2 : Hid (Calls Tryz.prog 38 #[.pointer (some ⟨w.heap.size, 0, none⟩), .slice (some ⟨w2.heap.size, 0, none⟩) 1 1] (w2.alloc (.cells #[.int .i64 0, .int .i64 2] 63)) fun e w' => e = .returned (.tuple #[.int .i64 1, .int .i64 0]) ∧ StoB w' w.heap.size [[(0, 2)], [(0, 2)]] [] ∧ Below w.heap.size w w') :=
    (var_any (d := [(0, 2)]) (S2.out.below (below_new _ _)) DmS.one (by decide) (by decide)).mono fun e w' h => ⟨h.1, h.2.1, h.2.2.below (Nat.le_refl _) (by have := B2.out.size; simp; omega) (over B2.out (below_new _ _))⟩
  go_upto_region 4 with (go_at_call 38; refine V2.out.mono ?_; rintro e w3 ⟨rfl, hs, hb⟩; have S3 := Lib.hid hs; have B3 := Lib.hid hb; clear hs hb)
  have N3 : ∀ (W : World), (W.alloc (.cells #[.int .i64 0, .int .i64 1] 3)).cell? ⟨W.heap.size, 0, none⟩ = some (.int .i64 0) ∧ (W.alloc (.cells #[.int .i64 0, .int .i64 1] 3)).cell? ⟨W.heap.size, 1, none⟩ = some (.int .i64 1) := fun W => by
    have hh := heap_alloc_new W (.cells #[.int .i64 0, .int .i64 1] 3)
    exact ⟨by rw [cell_of_row _ _ _ _ _ _ hh]; rfl, by rw [cell_of_row _ _ _ _ _ _ hh]; rfl⟩
  have PO : Hid (Calls Tryz.prog 39 #[.pointer (some ⟨w.heap.size, 0, none⟩), exV w3.heap.size] (w3.alloc (.cells #[.int .i64 0, .int .i64 1] 3)) fun e w' => e = .returned (.int .i64 0) ∧ StoB w' w.heap.size [[(0, 2)], [(0, 2)]] exP ∧ Below w.heap.size w w') :=
    (post_any (S3.out.below (below_new _ _)) rfl (N3 w3).1 (N3 w3).2 ex_post RU.out).mono fun e w' h => ⟨h.1, h.2.1, h.2.2.1.below (Nat.le_refl _) (by have := B3.out.size; simp; omega) (over B3.out (below_new _ _))⟩
  unfold exV at PO
  have N3 := Lib.hid N3
  go_upto_region 5 with (go_at_call 39; refine PO.out.mono ?_; rintro e w4 ⟨rfl, hs, hb⟩; have S4 := Lib.hid hs; have B4 := Lib.hid hb; clear hs hb)
  have LA : Hid (Calls Tryz.prog 33 #[.pointer (some ⟨w.heap.size, 0, none⟩), .slice (some ⟨w4.heap.size, 0, none⟩) 2 2, .int .i64 0, .int .i64 0, .int .i64 10, .int .i64 100] (w4.alloc (.cells #[.int .i64 0, .int .i64 1] 3)) fun e w' => ∃ g c, e = .returned (.tuple #[.slice (some ⟨g, 0, none⟩) 6 c, .int .i64 0]) ∧ (∃ g0 o0 c0, w'.cell? ⟨g, 0, none⟩ = some (.slice (some ⟨g0, o0, none⟩) 2 c0) ∧ w'.cell? ⟨g0, o0, none⟩ = some (.int .i64 0) ∧ w'.cell? ⟨g0, o0 + 1, none⟩ = some (.int .i64 1)) ∧ (∃ g5 o5 c5, w'.cell? ⟨g, 5, none⟩ = some (.slice (some ⟨g5, o5, none⟩) 2 c5) ∧ w'.cell? ⟨g5, o5, none⟩ = some (.int .i64 2) ∧ w'.cell? ⟨g5, o5 + 1, none⟩ = some (.int .i64 1)) ∧ Below w.heap.size w w') :=
    (label_any (S4.out.below (below_new _ _)) rfl (N3.out w4).1 (N3.out w4).2 (exE RU.out) ex_label rfl).mono (by
      rintro e w' ⟨v, base, rfl, hf, hb⟩
      obtain ⟨g, c, rfl, k⟩ := hf.six rfl
      obtain ⟨u0, p0, q0⟩ := k 0 (by omega)
      obtain ⟨u5, p5, q5⟩ := k 5 (by omega)
      have q0 : InV w' [0, 1] u0 := q0
      have q5 : InV w' [2, 1] u5 := q5
      obtain ⟨g0, o0, c0, rfl, x0, y0⟩ := q0.two
      obtain ⟨g5, o5, c5, rfl, x5, y5⟩ := q5.two
      exact ⟨g, c, rfl, ⟨_, _, _, p0, x0, y0⟩, ⟨_, _, _, p5, x5, y5⟩, over (over B4.out (below_new _ _)) hb⟩)
  go_upto_region 6 with (go_at_call 33; refine LA.out.mono ?_; rintro e w5 ⟨g, c, rfl, ⟨g0, o0, c0, p0, x0, y0⟩, ⟨g5, o5, c5, p5, x5, y5⟩, hb⟩; have B5 := Lib.hid hb; clear hb)
  go_wp2_with fail
  go_ret
  exact ⟨rfl, B5.out⟩
end Go.Proofs.YteiohgiecpibhaaGreat
