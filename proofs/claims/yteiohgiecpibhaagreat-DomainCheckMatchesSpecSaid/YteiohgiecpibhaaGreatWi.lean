/- state.picked, state.copied; the first that waits. -/
import Derived.Test.YteiohgiecpibhaaGreatWh
set_option linter.unusedVariables false
set_option linter.unusedSimpArgs false
set_option maxRecDepth 100000
set_option maxHeartbeats 4000000
namespace Go.Proofs.YteiohgiecpibhaaGreat
open Go.RowKit Fdm

/-- Its variables are among n. -/
def VarsIn (c : Con) (n : Nat) : Prop := ∀ i, i < c.vars.length → c.vars.getD i 0 = ((vr c i : Nat) : Int) ∧ vr c i < n
theorem pick_len (D : List Dm) (c : Con) : (pickF D c).length = c.vars.length := by simp [pickF]
theorem pick_at {D : List Dm} {c : Con} {i : Nat} (h : i < c.vars.length) : dm (pickF D c) i = dm D (vr c i) := by
  show (pickF D c).getD i [] = _
  unfold pickF
  rw [List.getD_eq_getElem?_getD, List.getElem?_map, List.getElem?_range h]; rfl
def PkL (W : World) (g m : Nat) (f : Nat → Dm) (v15 : Value) (wr : World) : Prop := ∃ k : Nat, k ≤ m ∧ v15 = .int .i64 (k : Int) ∧ DsF wr g m k f ∧ But g W wr
theorem alloc2 (w : World) (x y : Obj) : ((w.alloc x).alloc y).heap[w.heap.size]? = some x ∧ ((w.alloc x).alloc y).heap[w.heap.size + 1]? = some y ∧ Below w.heap.size w ((w.alloc x).alloc y) ∧ ((w.alloc x).alloc y).heap.size = w.heap.size + 2 := by
  have h := heap_alloc_new (w.alloc x) y
  rw [World.size_alloc] at h
  exact ⟨((below_new (w.alloc x) y).block _ (by simp)).trans (heap_alloc_new w x), h, over (below_new _ _) (below_new _ _), by simp⟩
theorem below_grown {w w' : World} (h : w.grownBy w' none) : Below w.heap.size w w' := ⟨h.os, h.tape, h.output, h.size, fun b hb => h.block b hb (by simp)⟩
theorem picked_any {w : World} {D : List Dm} {a : Option Addr} {n c0 : Nat} {vp : Value} {c : Con} {x1 x2 x3 x6 : Value} (h : DsA w D a) (hn : D.length = n) (hc : n ≤ c0) (hc2 : c0 ≤ 9223372036854775807) (hk : Kc w c x1 x2 x3 x6) (hv : VarsIn c n) (hm : c.vars.length ≤ 1000) :
    Calls Tryz.prog 132 #[.agg #[.slice a n c0, vp], .agg #[.int .i64 c.kind, x1, x2, x3, .int .i64 c.rel, .int .i64 c.bound, x6]] w fun e w' => ∃ v, e = .returned v ∧ DsV w' (pickF D c) v ∧ Below w.heap.size w w' := by
  obtain ⟨av, cv, rfl, l1, l2, hB⟩ := hk.vars.ex
  obtain ⟨m, hmm⟩ : ∃ m, c.vars.length = m := ⟨_, rfl⟩
  obtain ⟨b0, b1, b2, b3⟩ := alloc2 w (.cells #[.slice a n c0, vp] 86) (.cells #[.int .i64 c.kind, .slice av m cv, x2, x3, .int .i64 c.rel, .int .i64 c.bound, x6] 33)
  obtain ⟨i23, hi23, hz0, hz1, hz2⟩ := info_parts info23
  rw [hmm] at l1 hm ⊢
  have H := Lib.hid h; have HV := Lib.hid hv; have HB := Lib.hid hB; have MM := Lib.hid hmm; have DN := Lib.hid hn
  have B0 := Lib.hid b0; have B1 := Lib.hid b1; have B2 := Lib.hid b2; have B3 := Lib.hid b3
  clear h hv hB hmm hn b0 b1 b2 b3 hk
  go_enter Tryz.func132, Tryz.ntmps132
  go_upto_region 1 with fail
  generalize (w.alloc (.cells #[.slice a n c0, vp] 86)).alloc (.cells #[.int .i64 c.kind, .slice av m cv, x2, x3, .int .i64 c.rel, .int .i64 c.bound, x6] 33) = W0 at *
  have p1 : W0.cell? ⟨w.heap.size + 1, 1, none⟩ = some (.slice av m cv) := by rw [cell_of_row W0 _ 1 _ _ _ B1.out]; rfl
  go_upto_region 2 with (at_make; refine wpList_make_full _ rfl _ _ 28 rfl w.heap.size 23 i23 _ 1 Tryz.underlying28 hi23 hz0 hz1 .i64 .i64 _ _ m rfl rfl (by omega) (by omega) (by rw [hz2]; omega) (by unfold maxLen; omega) B2.out.size ?_; intro w1 hown1 hg1; obtain ⟨cf1, ge1⟩ := DsF.made (f := dm (pickF D c)) hown1; have F1 := Lib.hid cf1; have BB1 := Lib.hid (below_grown hg1); clear hown1 hg1 cf1 ge1)
  have G2 : Hid (W0.heap.size = w.heap.size + 2) := B3.out
  have p1 := cell_later BB1.out (Nat.le_refl _) p1
  rw [B3.out] at F1 ⊢
  go_wp2_with fail
  go_loopw [15] (fun v15 wr => PkL w1 (w.heap.size + 2) m (dm (pickF D c)) v15 wr) (fun v15 _ => m - (intOf v15).toNat)
  case atStart => exact ⟨0, Nat.zero_le _, rfl, F1.out, But.refl _ _⟩
  obtain ⟨k, hk, rfl, hF, hBt⟩ := hrel
  have F := Lib.hid hF; have BT := Lib.hid hBt
  clear hF hBt
  by_cases hlt : k < m
  · obtain ⟨gv, ov, rfl, -, dd⟩ := HB.out (by intro e; have := MM.out; rw [e] at this; simp at this; omega)
    have q0 := dd k (by rw [MM.out]; exact hlt)
    clear dd
    obtain ⟨hv1, hv2⟩ := HV.out k (by rw [MM.out]; exact hlt)
    have PA := Lib.hid (pick_at (D := D) (c := c) (i := k) (by rw [MM.out]; exact hlt))
    rw [hv1] at q0
    obtain ⟨v, hvv⟩ : ∃ v, vr c k = v := ⟨_, rfl⟩
    rw [hvv] at q0 hv2 PA
    clear hv1 hvv
    obtain ⟨gd, od, rfl, dd⟩ := H.out (by intro e; have := DN.out; rw [e] at this; simp at this; omega)
    obtain ⟨u, r0, r1⟩ := dd v (by rw [DN.out]; exact hv2)
    clear dd
    have BW : Hid (Below w.heap.size w w1) := over B2.out BB1.out
    have BR : Hid (Below w.heap.size w wr) := BT.out.below (by omega) BW.out.size BW.out
    have q0 := cell_later BR.out (Nat.le_refl _) q0
    have r0 := cell_later BR.out (Nat.le_refl _) r0
    have R1 := Lib.hid (r1.below BR.out)
    have s0 : wr.cell? ⟨w.heap.size, 0, none⟩ = some (.slice (some ⟨gd, od, none⟩) n c0) := by
      rw [cells_same (BT.out.block w.heap.size (by have := BW.out.size; have := BB1.out.size; have := B3.out; omega) (by omega)) 0, cells_same (BB1.out.block w.heap.size (by have := B3.out; omega)) 0, cell_of_row W0 _ 0 _ _ _ B0.out]; rfl
    obtain ⟨o1, t0⟩ := F.out.old k hlt
    have fz := F.out.blk.free k
    obtain ⟨ua, uc, rfl, -, -, -⟩ := r1.ex
    have NX := Lib.hid (F.out.set hlt (by rw [PA.out]; exact R1.out))
    have BX := Lib.hid (BT.out.trans (But.setCell (w.heap.size + 2) wr k (.slice ua (dm D v).length uc)))
    clear r1
    go_wp2_with fail
    go_roundw
    case rel => exact ⟨k + 1, by omega, by go_num, NX.out, BX.out⟩
    simp [intOf]; omega
  · obtain rfl : m = k := by omega
    go_wp2_with fail
    go_ret
    have BW : Below w.heap.size w w1 := over B2.out BB1.out
    exact ⟨_, rfl, F.out.v (by rw [pick_len]; exact MM.out) (by omega), BT.out.below (by omega) BW.size BW⟩
end Go.Proofs.YteiohgiecpibhaaGreat
