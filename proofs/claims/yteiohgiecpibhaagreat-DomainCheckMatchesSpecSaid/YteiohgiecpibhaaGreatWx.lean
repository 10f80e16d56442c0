/- Post, of the constraint that must differ. -/
import Derived.Test.YteiohgiecpibhaaGreatWw
set_option linter.unusedVariables false
set_option linter.unusedSimpArgs false
set_option maxRecDepth 100000
set_option maxHeartbeats 4000000
namespace Go.Proofs.YteiohgiecpibhaaGreat
open Go.RowKit Fdm

def PoS (wr : World) (D' : List Dm) (v6 v7 : Value) (W : World) : Prop :=
  ∃ g6 a c pa pc, v6 = .pointer (some ⟨g6, 0, none⟩) ∧ v7 = .bool true ∧ wr.heap.size ≤ g6 ∧ W.heap[g6]? = some (.cells #[.slice a 2 c, .slice pa 1 pc] 86 (0, 0)) ∧ 2 ≤ c ∧ c ≤ 9223372036854775807 ∧ 1 ≤ pc ∧ pc ≤ 9223372036854775807 ∧ PsV W exP (.slice pa 1 pc) ∧ DsK W D' a ∧ Below wr.heap.size wr W
theorem PsV.caps {w : World} {P : List Con} {a : Option Addr} {n c : Nat} (h : PsV w P (.slice a n c)) : n ≤ c ∧ c ≤ 9223372036854775807 := by
  obtain ⟨a', c', e, h1, h2, _⟩ := h.ex
  simp only [Value.slice.injEq] at e
  obtain ⟨rfl, rfl, rfl⟩ := e
  exact ⟨h1, h2⟩
theorem PoS.of {wr w7 W9 : World} {g10 : Nat} {D' : List Dm} {a a' : Option Addr} {c c' : Nat} (hb : Below wr.heap.size wr w7) (hg : wr.heap.size ≤ g10) (h0 : w7.heap[g10]? = some (.cells #[.slice none 0 0, .slice none 0 0] 86 (0, 0)))
    (hW : ((w7.setCell ⟨g10, 0, none⟩ (.slice a 2 c)).setCell ⟨g10, 1, none⟩ (.slice a' 1 c')) = W9) (l1 : 2 ≤ c) (l2 : c ≤ 9223372036854775807) (hp : PsV w7 exP (.slice a' 1 c')) (hd : DsK w7 D' a) : PoS wr D' (.pointer (some ⟨g10, 0, none⟩)) (.bool true) W9 ∧ Below wr.heap.size wr W9 := by
  have B9 : Below wr.heap.size wr W9 := by rw [← hW]; exact below_set2 hb hg _ _
  have k : KpX 86 w7 W9 := fun b ty x ht => by rw [← hW]; exact oth_set2 (fun e => (x.ne (e ▸ ⟨_, h0⟩) ht) rfl) _ _
  have pc := hp.caps
  exact ⟨⟨g10, a, c, a', c', rfl, rfl, hg, by rw [← hW]; exact set2 h0, l1, l2, pc.1, pc.2, hp.kx k (by decide) (by decide) (by decide), hd.kx k (by decide) (by decide), B9⟩, B9⟩
theorem nest2_but (w : World) (g : Nat) (x0 x1 : Value) : But g w ((w.setCell ⟨g, 0, none⟩ x0).setCell ⟨g, 1, none⟩ x1) := (But.setCell _ _ _ _).trans (But.setCell _ _ _ _)
theorem row3b {w : World} {g : Nat} {c0 c1 c2 x y : Value} {t : Nat} (h : w.heap[g]? = some (.cells #[c0, c1, c2] t (0, 0))) : ((w.setCell ⟨g, 0, none⟩ x).setCell ⟨g, 1, none⟩ y).heap[g]? = some (.cells #[x, y, c2] t (0, 0)) := by
  simp [World.setCell, Array.getElem?_modify, h]
def PtPost (w : World) (p : Nat) (D' : List Dm) (e : Ending) (w' : World) : Prop := e = .returned (.int .i64 0) ∧ StoB w' p D' exP ∧ But p w w' ∧ D'.length = 2
theorem post_any {w : World} {p g f : Nat} {D D' : List Dm} (h : StoB w p D []) (hn : D.length = 2) (h0 : w.cell? ⟨g, 0, none⟩ = some (.int .i64 0)) (h1 : w.cell? ⟨g, 1, none⟩ = some (.int .i64 1)) (hst : stF exRu exG exP f D [] 0 = some (D', true)) (hR : ∀ D, exG exC D = true → RuOk exRu exC D) :
    Calls Tryz.prog 39 #[.pointer (some ⟨p, 0, none⟩), exV g] w (PtPost w p D') := by
  obtain ⟨R, hRr⟩ : ∃ R : Ending → World → Prop, R = PtPost w p D' := ⟨_, rfl⟩
  rw [← hRr]
  have HR := Lib.hid hRr
  obtain ⟨a, c, pa, pc, m0, m1, m2, row, q1, q2, q3, q4, hD, hP⟩ := h.ex
  rw [hn] at row q1
  have D2 : Hid (D'.length = 2) := (stN_len hst).trans hn
  have NE : Hid (D ≠ []) := by rintro rfl; simp at hn
  have row : w.heap[p]? = some (.cells #[.slice a 2 c, .slice pa 0 pc, .slice m0 m1 m2] 89 (0, 0)) := row
  have ROW := Lib.hid row; have DK := Lib.hid hD; have DN := Lib.hid hn; have ST := Lib.hid hst; have RU := Lib.hid hR
  have H0 := Lib.hid h0; have H1 := Lib.hid h1
  obtain ⟨w1, hw1⟩ : ∃ w1, w.alloc (.cells #[.int .i64 3, .slice (some ⟨g, 0, none⟩) 2 2, .slice none 0 0, .slice none 0 0, .int .i64 0, .int .i64 0, .slice none 0 0] 33) = w1 := ⟨_, rfl⟩
  have B1 : Hid (Below w.heap.size w w1) := by show _; rw [← hw1]; exact below_new _ _
  have I1 : Hid (w1.heap[w.heap.size]? = some (.cells #[.int .i64 3, .slice (some ⟨g, 0, none⟩) 2 2, .slice none 0 0, .slice none 0 0, .int .i64 0, .int .i64 0, .slice none 0 0] 33 (0, 0))) := by show _; rw [← hw1]; exact heap_alloc_new _ _
  have R1 : Hid (w1.heap[p]? = some (.cells #[.slice a 2 c, .slice pa 0 pc, .slice m0 m1 m2] 89 (0, 0))) := (B1.out.block _ (Array.getElem?_eq_some_iff.1 row).1).trans row
  have LT : Hid (p < w.heap.size) := (Array.getElem?_eq_some_iff.1 row).1
  have LT1 : Hid (w.heap.size < w1.heap.size) := (Array.getElem?_eq_some_iff.1 I1.out).1
  clear h hD hP hn hst hR hRr row h0 h1
  unfold exV
  go_enter Tryz.func39, Tryz.ntmps39
  go_upto_region 1 with fail
  try rw [hw1]
  clear hw1
  have i1 := I1.out
  have r1 := R1.out
  have k0 : w1.cell? ⟨w.heap.size, 0, none⟩ = some (.int .i64 3) := by rw [cell_of_row _ _ _ _ _ _ i1]; rfl
  have k1 : w1.cell? ⟨w.heap.size, 1, none⟩ = some (.slice (some ⟨g, 0, none⟩) 2 2) := by rw [cell_of_row _ _ _ _ _ _ i1]; rfl
  have k2 : w1.cell? ⟨w.heap.size, 2, none⟩ = some (.slice none 0 0) := by rw [cell_of_row _ _ _ _ _ _ i1]; rfl
  have k3 : w1.cell? ⟨w.heap.size, 3, none⟩ = some (.slice none 0 0) := by rw [cell_of_row _ _ _ _ _ _ i1]; rfl
  have k4 : w1.cell? ⟨w.heap.size, 4, none⟩ = some (.int .i64 0) := by rw [cell_of_row _ _ _ _ _ _ i1]; rfl
  have k5 : w1.cell? ⟨w.heap.size, 5, none⟩ = some (.int .i64 0) := by rw [cell_of_row _ _ _ _ _ _ i1]; rfl
  have k6 : w1.cell? ⟨w.heap.size, 6, none⟩ = some (.slice none 0 0) := by rw [cell_of_row _ _ _ _ _ _ i1]; rfl
  have s0 : w1.cell? ⟨p, 0, none⟩ = some (.slice a 2 c) := by rw [cell_of_row _ _ _ _ _ _ r1]; rfl
  have s1 : w1.cell? ⟨p, 1, none⟩ = some (.slice pa 0 pc) := by rw [cell_of_row _ _ _ _ _ _ r1]; rfl
  have g0 := cell_later B1.out (Nat.le_refl _) H0.out
  have g1 := cell_later B1.out (Nat.le_refl _) H1.out
  clear i1 r1
  refine Rg.s0 8 [] fun W hW => ?_
  refine Rg.t 0 ?_
  refine Rg.t 1 ?_
  refine Rg.t 2 ?_
  refine Rg.t 3 ?_
  refine Rg.t 4 ?_
  refine Rg.t 5 ?_
  refine Rg.t 6 ?_
  refine Rg.c1 7 fun K' hK => ?_
  (try simp only [zA, zB, zC])
  go_simp
  refine (check3 (g := g) (cell_later hW (Nat.le_refl _) g0) (cell_later hW (Nat.le_refl _) g1)).mono ?_
  rintro e w2 ⟨rfl, b2⟩
  refine Rg.e1 hK (over hW b2) ?_
  have B2 := Lib.hid (over hW b2)
  clear hK K' hW b2
  refine Rg.l1 ?_
  (try simp only [zA, zB, zC])
  go_simp
  have i2 : w2.heap[w.heap.size]? = some (.cells #[.int .i64 3, .slice (some ⟨g, 0, none⟩) 2 2, .slice none 0 0, .slice none 0 0, .int .i64 0, .int .i64 0, .slice none 0 0] 33 (0, 0)) := (B2.out.block _ LT1.out).trans I1.out
  have r2 : w2.heap[p]? = some (.cells #[.slice a 2 c, .slice pa 0 pc, .slice m0 m1 m2] 89 (0, 0)) := (B2.out.block _ (by have := LT1.out; have := LT.out; omega)).trans R1.out
  have k0 : w2.cell? ⟨w.heap.size, 0, none⟩ = some (.int .i64 3) := by rw [cell_of_row _ _ _ _ _ _ i2]; rfl
  have k1 : w2.cell? ⟨w.heap.size, 1, none⟩ = some (.slice (some ⟨g, 0, none⟩) 2 2) := by rw [cell_of_row _ _ _ _ _ _ i2]; rfl
  have k2 : w2.cell? ⟨w.heap.size, 2, none⟩ = some (.slice none 0 0) := by rw [cell_of_row _ _ _ _ _ _ i2]; rfl
  have k3 : w2.cell? ⟨w.heap.size, 3, none⟩ = some (.slice none 0 0) := by rw [cell_of_row _ _ _ _ _ _ i2]; rfl
  have k4 : w2.cell? ⟨w.heap.size, 4, none⟩ = some (.int .i64 0) := by rw [cell_of_row _ _ _ _ _ _ i2]; rfl
  have k5 : w2.cell? ⟨w.heap.size, 5, none⟩ = some (.int .i64 0) := by rw [cell_of_row _ _ _ _ _ _ i2]; rfl
  have k6 : w2.cell? ⟨w.heap.size, 6, none⟩ = some (.slice none 0 0) := by rw [cell_of_row _ _ _ _ _ _ i2]; rfl
  have s0 : w2.cell? ⟨p, 0, none⟩ = some (.slice a 2 c) := by rw [cell_of_row _ _ _ _ _ _ r2]; rfl
  have s1 : w2.cell? ⟨p, 1, none⟩ = some (.slice pa 0 pc) := by rw [cell_of_row _ _ _ _ _ _ r2]; rfl
  have R2 := Lib.hid r2
  clear i2 r2
  go_upto_region 6 with fail
  have BW2 : Hid (Below w.heap.size w w2) := over B1.out B2.out
  have PO : Hid (∀ W, Below w2.heap.size w2 W → Calls Tryz.prog 69 #[.agg #[.slice a 2 c, .slice pa 0 pc], exV g] W (PoPost W 2 (D', true))) := fun W hW =>
    post3 ((DK.out.below BW2.out).below hW) NE.out DN.out q1 q2 q4 (by omega) (Nat.le_refl 2) (cell_later (over BW2.out hW) (Nat.le_refl _) H0.out) (cell_later (over BW2.out hW) (Nat.le_refl _) H1.out) ST.out RU.out
  unfold exV at PO
  go_cut [6, 7] (fun v6 v7 W => PoS w2 D' v6 v7 W)
  case first =>
    refine Rg.s0 11 [] fun WD DW => ?_
    refine Rg.t 0 ?_
    refine Rg.t 1 ?_
    refine Rg.t 2 ?_
    refine Rg.t 3 ?_
    refine Rg.t 4 ?_
    refine Rg.c2 5 9 (fun K' hK => ?_) fun K' hK => ?_
    · (try simp only [zA, zB, zC])
      go_simp
      go_at_call 69
      refine (PO.out WD DW).mono ?_
      rintro e wc ⟨⟨na, nc, np, mc, rfl, l1, l2, hp, hd⟩, hb⟩
      have hd := hd rfl
      have Dc := over DW hb
      refine Rg.e1 hK Dc ?_
      clear hK K' hb
      refine Rg.t 6 ?_
      refine Rg.t 7 ?_
      refine Rg.t 8 ?_
      refine Rg.c1 9 fun K' hK => ?_
      have bn := below_new wc (.cells #[.slice none 0 0, .slice none 0 0] 86)
      have h10 := heap_alloc_new wc (.cells #[.slice none 0 0, .slice none 0 0] 86)
      have hg10 : w2.heap.size ≤ wc.heap.size := Dc.size
      have DD := over Dc bn
      have hp := hp.below bn
      have hd := hd.below bn
      (try simp only [zA, zB, zC])
      go_simp
      refine Rg.e1 hK DD ?_
      clear hK K'
      generalize wc.alloc (.cells #[.slice none 0 0, .slice none 0 0] 86) = WW at *
      generalize wc.heap.size = g10 at *
      obtain ⟨W9, hW9⟩ : ∃ W9, ((WW.setCell ⟨g10, 0, none⟩ (.slice na 2 nc)).setCell ⟨g10, 1, none⟩ (.slice np 1 mc)) = W9 := ⟨_, rfl⟩
      have FIN := Lib.hid (PoS.of DD hg10 h10 hW9 l1 l2 hp hd)
      have z0 : WW.cell? ⟨g10, 0, none⟩ = some (.slice none 0 0) := by rw [cell_of_row _ _ _ _ _ _ h10]; rfl
      have z1 : WW.cell? ⟨g10, 1, none⟩ = some (.slice none 0 0) := by rw [cell_of_row _ _ _ _ _ _ h10]; rfl
      have fz0 : WW.frozen? ⟨g10, 0, none⟩ = false := by simp [World.frozen?, h10]
      have fz1 : WW.frozen? ⟨g10, 1, none⟩ = false := by simp [World.frozen?, h10]
      refine Rg.c1 10 fun K' hK => ?_
      (try simp only [zA, zB, zC])
      go_simp
      refine Rg.e1 hK FIN.out.2 ?_
      clear hK K' z0 z1 fz0 fz1 hW9 h10
      refine Rg.l1 ?_
      go_simp
      go_wp2_with fail
      go_meet
      case rel => exact FIN.out.1
    · have bn := below_new WD (.cells #[.slice none 0 0, .slice none 0 0] 86)
      have h10 := heap_alloc_new WD (.cells #[.slice none 0 0, .slice none 0 0] 86)
      have hg10 : w2.heap.size ≤ WD.heap.size := DW.size
      have Da := over DW bn
      (try simp only [zA, zB, zC])
      go_simp
      refine Rg.e1 hK Da ?_
      clear hK K'
      generalize WD.alloc (.cells #[.slice none 0 0, .slice none 0 0] 86) = wa at *
      generalize WD.heap.size = g10 at *
      refine Rg.c1 5 fun K' hK => ?_
      (try simp only [zA, zB, zC])
      go_simp
      go_at_call 69
      refine (PO.out wa Da).mono ?_
      rintro e WW ⟨⟨na, nc, np, mc, rfl, l1, l2, hp, hd⟩, hb⟩
      have hd := hd rfl
      have DD := over Da hb
      have h10 := (hb.block g10 (Array.getElem?_eq_some_iff.1 h10).1).trans h10
      refine Rg.e1 hK DD ?_
      clear hK K' hb
      refine Rg.t 6 ?_
      refine Rg.t 7 ?_
      refine Rg.t 8 ?_
      obtain ⟨W9, hW9⟩ : ∃ W9, ((WW.setCell ⟨g10, 0, none⟩ (.slice na 2 nc)).setCell ⟨g10, 1, none⟩ (.slice np 1 mc)) = W9 := ⟨_, rfl⟩
      have FIN := Lib.hid (PoS.of DD hg10 h10 hW9 l1 l2 hp hd)
      have z0 : WW.cell? ⟨g10, 0, none⟩ = some (.slice none 0 0) := by rw [cell_of_row _ _ _ _ _ _ h10]; rfl
      have z1 : WW.cell? ⟨g10, 1, none⟩ = some (.slice none 0 0) := by rw [cell_of_row _ _ _ _ _ _ h10]; rfl
      have fz0 : WW.frozen? ⟨g10, 0, none⟩ = false := by simp [World.frozen?, h10]
      have fz1 : WW.frozen? ⟨g10, 1, none⟩ = false := by simp [World.frozen?, h10]
      refine Rg.c1 10 fun K' hK => ?_
      (try simp only [zA, zB, zC])
      go_simp
      refine Rg.e1 hK FIN.out.2 ?_
      clear hK K' z0 z1 fz0 fz1 hW9 h10
      refine Rg.l1 ?_
      go_simp
      go_wp2_with fail
      go_meet
      case rel => exact FIN.out.1
  case rest =>
    obtain ⟨g6, na, nc, np, mc, rfl, rfl, hg6, h6, l1, l2, l3, l4, hp, hd, hb⟩ := hcut
    have R3 : wc.heap[p]? = some (.cells #[.slice a 2 c, .slice pa 0 pc, .slice m0 m1 m2] 89 (0, 0)) := (hb.block _ (Array.getElem?_eq_some_iff.1 R2.out).1).trans R2.out
    have HP := Lib.hid hp; have HD := Lib.hid hd; have B3 := Lib.hid hb; have R3H := Lib.hid R3; have H6 := Lib.hid h6
    clear hp hd hb
    have e0 : wc.cell? ⟨g6, 0, none⟩ = some (.slice na 2 nc) := by rw [cell_of_row _ _ _ _ _ _ h6]; rfl
    have e1 : wc.cell? ⟨g6, 1, none⟩ = some (.slice np 1 mc) := by rw [cell_of_row _ _ _ _ _ _ h6]; rfl
    have t0 : wc.cell? ⟨p, 0, none⟩ = some (.slice a 2 c) := by rw [cell_of_row _ _ _ _ _ _ R3]; rfl
    have t1 : wc.cell? ⟨p, 1, none⟩ = some (.slice pa 0 pc) := by rw [cell_of_row _ _ _ _ _ _ R3]; rfl
    have t2 : wc.cell? ⟨p, 2, none⟩ = some (.slice m0 m1 m2) := by rw [cell_of_row _ _ _ _ _ _ R3]; rfl
    have fz0 : wc.frozen? ⟨p, 0, none⟩ = false := by simp [World.frozen?, R3]
    have fz1 : wc.frozen? ⟨p, 1, none⟩ = false := by simp [World.frozen?, R3]
    clear R3 h6
    obtain ⟨w4, hw4⟩ : ∃ w4, ((wc.setCell ⟨p, 0, none⟩ (.slice na 2 nc)).setCell ⟨p, 1, none⟩ (.slice np 1 mc)) = w4 := ⟨_, rfl⟩
    have R4 : Hid (w4.heap[p]? = some (.cells #[.slice na 2 nc, .slice np 1 mc, .slice m0 m1 m2] 89 (0, 0))) := by show _ = _; rw [← hw4]; exact row3b R3H.out
    have BU : Hid (But p wc w4) := by show But _ _ _; rw [← hw4]; exact nest2_but _ _ _ _
    go_simp
    go_wp2_with fail
    rw [HR.out]
    have kx := BU.out.kpx (t := 89) ⟨_, R3H.out⟩
    exact ⟨rfl, ⟨na, nc, np, mc, m0, m1, m2, by rw [D2.out]; exact R4.out, by rw [D2.out]; exact l1, l2, l3, l4, HD.out.kx kx (by decide) (by decide), HP.out.kx kx (by decide) (by decide) (by decide)⟩, (But.of_below (over BW2.out B3.out)).trans BU.out, D2.out⟩
end Go.Proofs.YteiohgiecpibhaaGreat
