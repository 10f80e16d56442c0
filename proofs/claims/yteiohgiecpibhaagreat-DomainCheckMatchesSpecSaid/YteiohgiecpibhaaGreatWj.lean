/- state.copied; the first that waits. -/
import Derived.Test.YteiohgiecpibhaaGreatWi
set_option linter.unusedVariables false
set_option linter.unusedSimpArgs false
set_option maxRecDepth 100000
set_option maxHeartbeats 4000000
namespace Go.Proofs.YteiohgiecpibhaaGreat
open Go.RowKit Fdm

theorem set2 {w : World} {g t : Nat} {a b x y : Value} (h : w.heap[g]? = some (.cells #[a, b] t (0, 0))) : ((w.setCell ⟨g, 0, none⟩ x).setCell ⟨g, 1, none⟩ y).heap[g]? = some (.cells #[x, y] t (0, 0)) := by
  simp [World.setCell, Array.getElem?_modify, h]
theorem below_set2 {n : Nat} {w0 w : World} (h : Below n w0 w) {g : Nat} (hg : n ≤ g) (x y : Value) : Below n w0 ((w.setCell ⟨g, 0, none⟩ x).setCell ⟨g, 1, none⟩ y) :=
  (h.setCell (p := ⟨g, 0, none⟩) hg _).setCell (p := ⟨g, 1, none⟩) hg _
theorem oth_set2 {w : World} {g k : Nat} (hk : k ≠ g) (x y : Value) : ((w.setCell ⟨g, 0, none⟩ x).setCell ⟨g, 1, none⟩ y).heap[k]? = w.heap[k]? := by
  rw [heap_setCell_other _ ⟨g, 1, none⟩ _ _ hk, heap_setCell_other _ ⟨g, 0, none⟩ _ _ hk]
theorem DsG.oth {w w' : World} {g : Nat} {D : List Dm} (h : DsG w g D) (k : KpT w w') (e : w'.heap[g]? = w.heap[g]?) : DsG w' g D :=
  ⟨h.blk.keep e, fun i hi => by obtain ⟨u, p, q⟩ := h.cs i hi; exact ⟨u, (cells_same e i).trans p, q.kp k⟩⟩
/-- What is in blocks that none of the calls gets to is kept. -/
theorem DsO.oth {w w' : World} {base gx : Nat} {D : List Dm} {v : Value} (h : DsO w base D v) (hw : ∀ b, b ≠ gx → w'.heap[b]? = w.heap[b]?) (hx : Blk w gx 86) : DsO w' base D v := by
  obtain ⟨a, c, e, l1, l2, hG⟩ := h
  refine ⟨a, c, e, l1, l2, fun hne => ?_⟩
  obtain ⟨g, e, hb, G⟩ := hG hne
  have ne : ∀ {b ty : Nat}, Blk w b ty → ty ≠ 86 → b ≠ gx := fun hb ht q => (hb.ne (q ▸ hx) ht) rfl
  refine ⟨g, e, hb, G.blk.keep (hw g (ne G.blk (by decide))), fun i hi => ?_⟩
  obtain ⟨u, p, q⟩ := G.cs i hi
  refine ⟨u, (cells_same (hw g (ne G.blk (by decide))) i).trans p, ?_⟩
  obtain ⟨a', c', e', m1, m2, hB⟩ := q.ex
  refine ⟨a', c', e', m1, m2, fun hd => ?_⟩
  obtain ⟨gd, od, ed, bd, k⟩ := hB hd
  exact ⟨gd, od, ed, bd.keep (hw gd (ne bd (by decide))), fun j hj => ⟨(cells_same (hw gd (ne bd (by decide))) _).trans (k j hj).1, (cells_same (hw gd (ne bd (by decide))) _).trans (k j hj).2⟩⟩
theorem copied_any {w : World} {D : List Dm} {a pa : Option Addr} {n c0 pn pc : Nat} (h : DsA w D a) (hn : D.length = n) (hc : n ≤ c0) (hc2 : c0 ≤ 9223372036854775807) (hp : pn ≤ pc) (hp2 : pc ≤ 9223372036854775807) (h1000 : n ≤ 1000) :
    Calls Tryz.prog 65 #[.agg #[.slice a n c0, .slice pa pn pc]] w fun e w' => ∃ v', e = .returned (.agg #[v', .slice pa pn pn]) ∧ DsO w' w.heap.size D v' ∧ Below w.heap.size w w' := by
  obtain ⟨b0, b1, b2, b3⟩ := alloc2 w (.cells #[.slice a n c0, .slice pa pn pc] 86) (.cells #[.slice none 0 0, .slice none 0 0] 86)
  have H := Lib.hid h; have DN := Lib.hid hn
  have B0 := Lib.hid b0; have B1 := Lib.hid b1; have B2 := Lib.hid b2; have B3 := Lib.hid b3
  clear h hn b0 b1 b2 b3
  go_enter Tryz.func65, Tryz.ntmps65
  go_upto_region 1 with fail
  generalize (w.alloc (.cells #[.slice a n c0, .slice pa pn pc] 86)).alloc (.cells #[.slice none 0 0, .slice none 0 0] 86) = W1 at *
  obtain ⟨g, hg⟩ : ∃ g, w.heap.size = g := ⟨_, rfl⟩
  rw [hg] at B0 B1 B3 ⊢
  have GG := Lib.hid hg
  clear hg
  have p0 : W1.cell? ⟨g, 0, none⟩ = some (.slice a n c0) := by rw [cell_of_row W1 g 0 _ _ _ B0.out]; rfl
  have p1 : W1.cell? ⟨g, 1, none⟩ = some (.slice pa pn pc) := by rw [cell_of_row W1 g 1 _ _ _ B0.out]; rfl
  refine Rg.s0 7 [] fun WD DW => ?_
  refine Rg.t 0 ?_
  refine Rg.t 1 ?_
  refine Rg.t 3 ?_
  refine Rg.t 4 ?_
  refine Rg.c1 2 fun K' hK => ?_
  go_simp
  go_at_call 99
  refine (cloneDs_any (H.out.below (over B2.out DW)) DN.out h1000).mono ?_
  rintro e w2 ⟨v', rfl, hO, hb⟩
  obtain ⟨va, vc, rfl, l1, l2, hG⟩ := hO
  have D2 := over DW hb
  refine Rg.e1 hK D2 ?_
  clear hK K'
  refine Rg.c1 5 fun K' hK => ?_
  go_simp
  go_at_call 100
  refine (clipPs_any hp hp2).mono ?_
  rintro e w3 ⟨rfl, rfl⟩
  refine Rg.e1 hK D2 ?_
  clear hK K'
  refine Rg.t 6 ?_
  have q0 : w3.heap[g + 1]? = some (.cells #[.slice none 0 0, .slice none 0 0] 86 (0, 0)) := (D2.block (g + 1) (by have := B3.out; omega)).trans B1.out
  have z0 : w3.cell? ⟨g + 1, 0, none⟩ = some (.slice none 0 0) := by rw [cell_of_row w3 _ 0 _ _ _ q0]; rfl
  have z1 : w3.cell? ⟨g + 1, 1, none⟩ = some (.slice none 0 0) := by rw [cell_of_row w3 _ 1 _ _ _ q0]; rfl
  have f0 : w3.frozen? ⟨g + 1, 0, none⟩ = false := by simp [World.frozen?, q0]
  have f1 : w3.frozen? ⟨g + 1, 1, none⟩ = false := by simp [World.frozen?, q0]
  obtain ⟨W9, hW9⟩ : ∃ W9, ((w3.setCell ⟨g + 1, 0, none⟩ (.slice va D.length vc)).setCell ⟨g + 1, 1, none⟩ (.slice pa pn pn)) = W9 := ⟨_, rfl⟩
  have S9 : W9.heap[g + 1]? = some (.cells #[.slice va D.length vc, .slice pa pn pn] 86 (0, 0)) := by rw [← hW9]; exact set2 q0
  have r0 : W9.cell? ⟨g + 1, 0, none⟩ = some (.slice va D.length vc) := by rw [cell_of_row W9 _ 0 _ _ _ S9]; rfl
  have r1 : W9.cell? ⟨g + 1, 1, none⟩ = some (.slice pa pn pn) := by rw [cell_of_row W9 _ 1 _ _ _ S9]; rfl
  have O9 : Hid (DsO W9 w.heap.size D (.slice va D.length vc)) := by
    have O2 : DsO w3 w.heap.size D (.slice va D.length vc) := ⟨va, vc, rfl, l1, l2, fun hne => by
      obtain ⟨g', e, h1, h2⟩ := hG hne
      exact ⟨g', e, by have := (over B2.out DW).size; omega, h2⟩⟩
    exact O2.oth (gx := g + 1) (fun b hb => by rw [← hW9]; exact oth_set2 hb _ _) ⟨_, q0⟩
  have B9 : Hid (Below w.heap.size w W9) := by show Below _ _ _; rw [← hW9]; exact below_set2 (over B2.out D2) (by have := GG.out; omega) _ _
  refine Rg.l1 ?_
  (try simp only [zA, zB, zC])
  go_simp
  go_wp2_with fail
  refine bodyPost_ret (v := .agg #[.slice va D.length vc, .slice pa pn pn]) (by simp [results, Tryz.results65, go_sem, r0, r1]) rfl ?_
  exact ⟨_, rfl, O9.out, B9.out⟩
end Go.Proofs.YteiohgiecpibhaaGreat
