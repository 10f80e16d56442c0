/- The reference's table of a formula. -/
import Derived.Test.YthhogbligfmpdaaWr
set_option linter.unusedVariables false
set_option linter.unusedSimpArgs false
namespace Go.Proofs.Ythhogbligfmpdaa
open Go.RowKit Bd

theorem info4 : (Try.prog.info? 4).map (fun i => (i.zero, i.size, i.bytes)) = some (some (.bool false), 1, 1) := by kernel_rfl

/-- The first k entries of a table of n are laid in block g; all that lies below it is as it was. -/
def FT (n g : Nat) (f : Nat → Bool) (w : World) (i : Value) (wr : World) : Prop :=
  ∃ k : Nat, k ≤ n ∧ i = .int .i64 k ∧ (∀ j, j < k → wr.cell? ⟨g, j, none⟩ = some (.bool (f j))) ∧ (∀ j, j < n → ∃ u, wr.cell? ⟨g, j, none⟩ = some u) ∧ (∀ j, wr.frozen? ⟨g, j, none⟩ = false) ∧ Below g w wr ∧ g < wr.heap.size

theorem ft_made {n g e : Nat} {w : World} {xs : List Value} {f : Nat → Bool} (h : w.ownsRow 0 e 1 (.slice (some ⟨g, 0, none⟩) n n) n xs) : FT n g f w (.int .i64 ((0 : Nat) : Int)) w := by
  refine ⟨0, Nat.zero_le _, rfl, fun j hj => by omega, fun j hj => ?_, fun j => h.frozenAt j, Below.refl _ _, (h.lt g rfl).2⟩
  have hl := h.1
  rw [h.cellAt j (by omega), List.getElem?_eq_getElem (by omega)]
  exact ⟨_, rfl⟩

theorem ft_step {n g k : Nat} {f : Nat → Bool} {w wr w2 : World} (hk : k < n) (h1 : ∀ j, j < k → wr.cell? ⟨g, j, none⟩ = some (.bool (f j))) (h2 : ∀ j, j < n → ∃ u, wr.cell? ⟨g, j, none⟩ = some u) (h3 : ∀ j, wr.frozen? ⟨g, j, none⟩ = false) (h4 : Below g w wr) (h5 : g < wr.heap.size)
    (hb : Below wr.heap.size wr w2) : FT n g f w (.int .i64 ((k + 1 : Nat) : Int)) (w2.setCell ⟨g, k, none⟩ (.bool (f k))) := by
  have cells : ∀ j v, wr.cell? ⟨g, j, none⟩ = some v → w2.cell? ⟨g, j, none⟩ = some v := fun j v h => (hb.cell (p := ⟨g, j, none⟩) h5).trans h
  have other : ∀ j v, j ≠ k → w2.cell? ⟨g, j, none⟩ = some v → (w2.setCell ⟨g, k, none⟩ (.bool (f k))).cell? ⟨g, j, none⟩ = some v := by
    intro j v hj h
    rw [World.cell?_setCell_other _ _ _ _ (by intro e; exact hj (congrArg Addr.off e).symm)]
    exact h
  have same : (w2.setCell ⟨g, k, none⟩ (.bool (f k))).cell? ⟨g, k, none⟩ = some (.bool (f k)) := by
    obtain ⟨u, hu⟩ := h2 k hk
    exact World.cell?_setCell_same _ _ _ (cells k u hu)
  refine ⟨k + 1, by omega, rfl, fun j hj => ?_, fun j hj => ?_, fun j => ?_, ?_, ?_⟩
  · by_cases e : j = k
    · subst e; exact same
    · exact other j _ e (cells j _ (h1 j (by omega)))
  · by_cases e : j = k
    · subst e; exact ⟨_, same⟩
    · obtain ⟨u, hu⟩ := h2 j hj
      exact ⟨u, other j u e (cells j u hu)⟩
  · rw [World.frozen?_setCell, hb.frozen (p := ⟨g, j, none⟩) h5]; exact h3 j
  · exact (h4.trans (hb.mono (Nat.le_of_lt h5))).setCell (Nat.le_refl _) _
  · have := hb.size
    simp [World.setCell]; omega


/-- A table in a new block. -/
def TPost (w : World) (f : Nat → Bool) (e : Ending) (w' : World) : Prop :=
  ∃ g, w.heap.size ≤ g ∧ e = .returned (.slice (some ⟨g, 0, none⟩) 65536 65536) ∧ TAt w' (tl f) g 0 ∧ Below w.heap.size w w'

theorem ft_done {g : Nat} {f : Nat → Bool} {wr : World} (h : ∀ j, j < 65536 → wr.cell? ⟨g, j, none⟩ = some (.bool (f j))) : TAt wr (tl f) g 0 := by
  intro i hi
  rw [tl_length] at hi
  rw [Nat.zero_add, h i hi, List.getD_eq_getElem?_getD, tl_get f hi]
  rfl

set_option maxRecDepth 100000 in
set_option maxHeartbeats 1000000 in
theorem formulaTable_any {w0 : World} {F : Fm} {a : Option Addr} (h : FmAt w0 F a) (cap : Nat) (w : World) (hB : Below w0.heap.size w0 w) (hfa : fault F = 0) :
    Calls Try.prog 17 #[.agg #[.int .i64 F.op, .int .i64 F.var, .slice a F.kids.length cap]] w (TPost w (evF F)) := by
  have C1 := Lib.hid (fun (W : World) (hW : Below w0.heap.size w0 W) (x y : Nat) => True_any h cap W x y hW hfa)
  clear h hfa
  have B1 : Hid (Below w.heap.size w (w.alloc (.cells #[.int .i64 F.op, .int .i64 F.var, .slice a F.kids.length cap] 24))) := (Below.refl _ _).alloc (Nat.le_refl _) _
  have S1 : Hid ((w.alloc (.cells #[.int .i64 F.op, .int .i64 F.var, .slice a F.kids.length cap] 24)).heap.size = w.heap.size + 1) := by show _ = _; simp
  have X : Hid ((w.alloc (.cells #[.int .i64 F.op, .int .i64 F.var, .slice a F.kids.length cap] 24)).heap[w.heap.size]? = some (.cells #[.int .i64 F.op, .int .i64 F.var, .slice a F.kids.length cap] 24 (0, 0))) := heap_alloc_new w _
  obtain ⟨i0, hi0, hz0, hz1, hz2⟩ := info_parts info4
  obtain ⟨n, hn⟩ : ∃ n : Nat, n = 65536 := ⟨_, rfl⟩
  have hn1 : n ≤ 65536 := by omega
  have HN := Lib.hid hn; clear hn
  go_enter Try.func17, Try.ntmps17
  go_wp2_with (at_make; refine wpList_make_full _ rfl _ _ 33 rfl 0 4 i0 (.bool false) 1 Try.underlying33 hi0 hz0 hz1 .i64 .i64 65536 65536 n rfl rfl (by rw [HN.out]; rfl) (by rw [HN.out]; rfl) (by rw [hz2]; omega) (by unfold maxLen; omega) (Nat.zero_le _) ?_; intro w1 hown1 hg1; have OW := Lib.hid hown1; have GR := Lib.hid hg1; clear hown1 hg1)
  have B2 : Hid (Below (w.heap.size + 1) (w.alloc (.cells #[.int .i64 F.op, .int .i64 F.var, .slice a F.kids.length cap] 24)) w1) := ⟨GR.out.os, GR.out.tape, GR.out.output, GR.out.size, fun k hk => GR.out.block k (by rw [S1.out]; exact hk) (by simp)⟩
  have hs1 : Hid (w1.ownsRow 0 4 1 (.slice (some ⟨w.heap.size + 1, 0, none⟩) n n) n (madeCells (Value.bool false).cells (n * 1)).toList) := by
    have := OW.out
    rw [S1.out] at this
    exact this
  generalize w.alloc (.cells #[.int .i64 F.op, .int .i64 F.var, .slice a F.kids.length cap] 24) = wa at *
  have XB := Lib.hid ((B2.out.block w.heap.size (by omega)).trans X.out)
  obtain ⟨x0, x1, x2⟩ := cells3 XB.out
  have BW : Hid (Below w.heap.size w w1) := B1.out.trans (B2.out.mono (by omega))
  clear OW GR
  go_loopw [4] (fun i wr => FT n (w.heap.size + 1) (evF F) w1 i wr) (fun i _ => n - (intOf i).toNat)
  case atStart => exact ft_made hs1.out
  case round =>
    obtain ⟨k, hk, rfl, h1, h2, h3, h4, h5⟩ := hrel
    have y0 : wr.cell? ⟨w.heap.size, 0, none⟩ = some (.int .i64 F.op) := (h4.cell (p := ⟨w.heap.size, 0, none⟩) (by show w.heap.size < _; omega)).trans x0
    have y1 : wr.cell? ⟨w.heap.size, 1, none⟩ = some (.int .i64 F.var) := (h4.cell (p := ⟨w.heap.size, 1, none⟩) (by show w.heap.size < _; omega)).trans x1
    have y2 : wr.cell? ⟨w.heap.size, 2, none⟩ = some (.slice a F.kids.length cap) := (h4.cell (p := ⟨w.heap.size, 2, none⟩) (by show w.heap.size < _; omega)).trans x2
    have BR : Hid (Below w.heap.size w wr) := BW.out.trans (h4.mono (by omega))
    by_cases hkk : k < n
    · obtain ⟨u, hu⟩ := h2 k hkk
      have fz := h3 k
      have ST := Lib.hid (fun (w2 : World) (hb : Below wr.drew.heap.size wr.drew w2) => ft_step (f := evF F) hkk h1 h2 h3 h4 h5 (w2 := w2) ⟨hb.os, hb.tape, hb.output, hb.size, hb.block⟩)
      clear h1 h2 h3 h4 x0 x1 x2
      have i1 : (k : Int) < (n : Int) := by omega
      have i3 : (0 : Int) ≤ (k : Int) := by omega
      go_wp2_with fail
      go_region_held3 (fun W => W.cell? ⟨w.heap.size, 0, none⟩ = some (.int .i64 F.op) ∧ W.cell? ⟨w.heap.size, 1, none⟩ = some (.int .i64 F.var) ∧ W.cell? ⟨w.heap.size, 2, none⟩ = some (.slice a F.kids.length cap))
        (first
          | exact ⟨y0, y1, y2⟩
          | exact ⟨cell_later hb2 y0, cell_later hb2 y1, cell_later hb2 y2⟩
          | go_keep)
        (first
          | (go_at_call 50; refine (turned_any k _ (by omega)).mono ?_; rintro e w2 ⟨rfl, rfl⟩)
          | (go_at_call 49; refine (C1.out wr.drew ((Below.over hB hB.size BR.out).drew) (rv k 16) k (rv_lt k 16) (rv16 k)).mono ?_; rintro e w2 ⟨rfl, hb2⟩; have hu2 := cell_later hb2 hu; have fz2 : w2.frozen? ⟨w.heap.size + 1, k, none⟩ = false := ((hb2.frozen (p := ⟨w.heap.size + 1, k, none⟩) h5).trans fz)))
      have RR := Lib.hid (ST.out w2 hb2)
      clear hb2 hu2 fz2
      go_wp2_with fail
      go_roundw
      case rel => exact RR.out
      case measure => simp [intOf]; omega
    · obtain rfl : k = n := by omega
      have hT := ft_done (f := evF F) (wr := wr) (g := w.heap.size + 1) (by rw [← HN.out]; exact h1)
      have HT := Lib.hid hT
      clear hT h1 h2 h3 h4 y0 y1 y2 x0 x1 x2
      go_wp2_with fail
      go_ret
      exact ⟨w.heap.size + 1, by omega, by rw [HN.out]; rfl, HT.out, BR.out⟩

end Go.Proofs.Ythhogbligfmpdaa
