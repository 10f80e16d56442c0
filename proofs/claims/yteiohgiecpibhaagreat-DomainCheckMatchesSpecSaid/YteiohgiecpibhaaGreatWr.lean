/- search.step; what a search has in memory. -/
import Derived.Test.YteiohgiecpibhaaGreatWq
set_option linter.unusedVariables false
set_option linter.unusedSimpArgs false
set_option maxRecDepth 100000
set_option maxHeartbeats 4000000
namespace Go.Proofs.YteiohgiecpibhaaGreat
open Go.RowKit Fdm

theorem info30 : (Tryz.prog.info? 30).map (fun i => (i.zero, i.size, i.bytes)) = some (some (.slice none 0 0), 1, 24) := by kernel_rfl
/-- Lists that were found. -/
def FoO (w : World) (base : Nat) (v : Value) (F : List (List Int)) : Prop := ∃ us : List Value, OwP (fun _ => True) w base 30 1 v F.length us ∧ us.length = F.length ∧ ∀ i, i < F.length → ∃ u, us[i]? = some u ∧ InV w (F.getD i []) u
theorem FoO.nil (w : World) (base : Nat) : FoO w base (.slice none 0 0) [] := ⟨[], OwP.nil _ _ _ _ _, rfl, fun i hi => absurd hi (Nat.not_lt_zero _)⟩
theorem FoO.lt {w : World} {base : Nat} {v : Value} {F : List (List Int)} (h : FoO w base v F) {g : Nat} (hg : v.ownBlock = some g) : base ≤ g ∧ g < w.heap.size := by obtain ⟨us, o, _⟩ := h; exact o.own.lt g hg
theorem FoO.below {w w' : World} {base : Nat} {v : Value} {F : List (List Int)} (h : FoO w base v F) (hb : Below w.heap.size w w') : FoO w' base v F := by
  obtain ⟨us, o, l, k⟩ := h
  exact ⟨us, o.below hb, l, fun i hi => by obtain ⟨u, p, q⟩ := k i hi; exact ⟨u, p, q.below hb⟩⟩
theorem FoO.sh {w : World} {base : Nat} {v : Value} {F : List (List Int)} (h : FoO w base v F) : ∃ a c, v = .slice a F.length c ∧ F.length ≤ c ∧ c ≤ 9223372036854775807 := by
  obtain ⟨us, o, l, k⟩ := h
  rcases o.own.2 with ⟨rfl, h0⟩ | ⟨g, cap, cur, rfl, hb, hg, hnc, hcm, hcs, htake⟩
  · exact ⟨none, 0, by rw [h0], by omega, by omega⟩
  · exact ⟨_, _, rfl, hnc, by unfold maxLen at hcm; omega⟩
/-- One more. -/
theorem wpList_pushF {ops : Array Oper} {rest : List Oper} {o : Oper} {a : Act} {Q : Exit → Act → World → Prop} {w : World} (hgd : o.guard = none) (s x : Operand)
    (ho : o.op = .call { callee := .builtin .append, args := #[s, x], argTypes := #[31, 31] })
    (n : Nat) (w1 : World) (v : Value) (F : List (List Int)) (l : List Int) (u : Value) (hw : w = w1.alloc (.cells #[u] 30)) (hs : a.eval s = v) (hx : a.eval x = .slice (some ⟨w1.heap.size, 0, none⟩) 1 1)
    (hO : FoO w1 n v F) (hu : InV w1 l u) (hn : n ≤ w1.heap.size) (hl : F.length ≤ 1000000)
    (h : ∀ v' w', FoO w' n v' (F ++ [l]) → Below n w1 w' → Psh w1 w' v v' → wpList Tryz.prog ops Q rest (a.put o.dst v') w') : wpList Tryz.prog ops Q (o :: rest) a w := by
  subst hw
  obtain ⟨i0, hi0, hz0, hz1, hz2⟩ := info_parts info30
  have bn := below_new w1 (.cells #[u] 30)
  obtain ⟨us, op, ul, uk⟩ := hO.below bn
  have B1 : Below n w1 (w1.alloc (.cells #[u] 30)) := bn.mono hn
  obtain ⟨ua, uc, rfl, _⟩ := hu.ex
  refine wpList_append_op hgd s x 31 ho n 30 i0 _ 1 24 Tryz.underlying31 hi0 hz0 hz1 hz2 rfl (by omega) (fun _ _ => trivial) v F.length us hs op ⟨w1.heap.size, 0, none⟩ 1 1 [.slice ua l.length uc] hx rfl ?_ ?_ (fun _ _ => trivial) (by unfold maxLen; omega) (by omega) (Nat.le_trans hn B1.size) ?_
  · intro j z hz
    have hh := heap_alloc_new w1 (.cells #[.slice ua l.length uc] 30)
    rw [add_at, Nat.zero_add, cell_of_row _ _ j _ _ _ hh]
    simpa using hz
  · intro z hz
    simp at hz
    subst hz; rfl
  · intro v' w' h1 h2 h3
    have ps : Psh w1 w' v v' := ⟨fun b hb hn => (h2.block b (by simp; omega) (fun e => hn e.symm)).trans (bn.block b hb), fun g hg => by
      rcases h3 g hg with q | q
      · exact .inl q
      · exact .inr (by simp at q; omega), by have := h2.size; simp at this; omega⟩
    have kx : KpX 30 (w1.alloc (.cells #[.slice ua l.length uc] 30)) w' := fun b ty hb ht => h2.block b hb.lt fun e => (hb.ne (op.blk e.symm) ht) rfl
    refine h v' w' ⟨us ++ [.slice ua l.length uc], by rw [List.length_append]; exact h1, by simp [ul], fun i hi => ?_⟩ (below_own B1 op.own (Nat.le_trans hn B1.size) h2) ps
    rw [List.length_append, List.length_singleton] at hi
    by_cases e : i < F.length
    · obtain ⟨z, p, q⟩ := uk i e
      refine ⟨z, by rw [List.getElem?_append_left (by omega)]; exact p, ?_⟩
      have : (F ++ [l]).getD i [] = F.getD i [] := by rw [List.getD_eq_getElem?_getD, List.getD_eq_getElem?_getD, List.getElem?_append_left e]
      rw [this]; exact q.kpx kx (by decide)
    · obtain rfl : i = F.length := by omega
      refine ⟨.slice ua l.length uc, by rw [List.getElem?_append_right (by omega), ul, Nat.sub_self]; rfl, ?_⟩
      have : (F ++ [l]).getD F.length [] = l := by rw [List.getD_eq_getElem?_getD, List.getElem?_append_right (Nat.le_refl _), Nat.sub_self]; rfl
      rw [this]; exact (hu.below bn).kpx kx (by decide)
/-- A search in memory. -/
structure SeaB (w : World) (base gr : Nat) (vs vf : Value) (most : Nat) (s : Sea) : Prop where
  row : w.heap[gr]? = some (.cells #[vs, .int .i64 0, .int .i64 0, .int .i64 (most : Int), .int .i64 (s.fuel : Int), vf, .bool s.out] 94 (0, 0))
  fo : FoO w base vf s.found
/-- What a search's calls keep. -/
structure SeaFr (gr : Nat) (vf : Value) (w w' : World) : Prop where
  os : w'.os = w.os
  tape : w'.tape = w.tape
  output : w'.output = w.output
  size : w.heap.size ≤ w'.heap.size
  block : ∀ b, b < w.heap.size → b ≠ gr → vf.ownBlock ≠ some b → w'.heap[b]? = w.heap[b]?
def Loc (w : World) (vf vf' : Value) : Prop := ∀ g, vf'.ownBlock = some g → vf.ownBlock = some g ∨ w.heap.size ≤ g
theorem SeaFr.refl (gr : Nat) (vf : Value) (w : World) : SeaFr gr vf w w := ⟨rfl, rfl, rfl, Nat.le_refl _, fun _ _ _ _ => rfl⟩
theorem SeaFr.of_below {gr : Nat} {vf : Value} {w w' : World} (h : Below w.heap.size w w') : SeaFr gr vf w w' := ⟨h.os, h.tape, h.output, h.size, fun b hb _ _ => h.block b hb⟩
theorem SeaFr.trans {gr : Nat} {vf vf' : Value} {a b c : World} (h : SeaFr gr vf a b) (l : Loc a vf vf') (k : SeaFr gr vf' b c) : SeaFr gr vf a c :=
  ⟨k.os.trans h.os, k.tape.trans h.tape, k.output.trans h.output, Nat.le_trans h.size k.size, fun x hx h1 h2 => (k.block x (Nat.lt_of_lt_of_le hx h.size) h1 fun e => by
    rcases l x e with q | q
    · exact h2 q
    · omega).trans (h.block x hx h1 h2)⟩
theorem SeaFr.below {gr n : Nat} {vf : Value} {w0 w w' : World} (h : SeaFr gr vf w w') (hg : n ≤ gr) (hv : ∀ g, vf.ownBlock = some g → n ≤ g) (hn : n ≤ w.heap.size) (B : Below n w0 w) : Below n w0 w' :=
  ⟨h.os.trans B.os, h.tape.trans B.tape, h.output.trans B.output, Nat.le_trans B.size h.size, fun b hb => (h.block b (Nat.lt_of_lt_of_le hb hn) (by omega) fun e => by have := hv b e; omega).trans (B.block b hb)⟩
theorem Loc.refl (w : World) (vf : Value) : Loc w vf vf := fun _ h => .inl h
theorem Loc.trans {a b : World} {x y z : Value} (h : Loc a x y) (k : Loc b y z) (hs : a.heap.size ≤ b.heap.size) : Loc a x z := fun g e => by
  rcases k g e with q | q
  · exact h g q
  · exact .inr (by omega)
theorem seven {w : World} {g : Nat} {c0 c1 c2 c3 c4 c5 c6 : Value} {t : Nat} (h : w.heap[g]? = some (.cells #[c0, c1, c2, c3, c4, c5, c6] t (0, 0))) (i : Nat) : w.frozen? ⟨g, i, none⟩ = false := by simp [World.frozen?, h]
theorem set7_4 {w : World} {g : Nat} {c0 c1 c2 c3 c4 c5 c6 x : Value} {t : Nat} (h : w.heap[g]? = some (.cells #[c0, c1, c2, c3, c4, c5, c6] t (0, 0))) : (w.setCell ⟨g, 4, none⟩ x).heap[g]? = some (.cells #[c0, c1, c2, c3, x, c5, c6] t (0, 0)) := by
  simp [World.setCell, Array.getElem?_modify, h]
theorem set7_5 {w : World} {g : Nat} {c0 c1 c2 c3 c4 c5 c6 x : Value} {t : Nat} (h : w.heap[g]? = some (.cells #[c0, c1, c2, c3, c4, c5, c6] t (0, 0))) : (w.setCell ⟨g, 5, none⟩ x).heap[g]? = some (.cells #[c0, c1, c2, c3, c4, x, c6] t (0, 0)) := by
  simp [World.setCell, Array.getElem?_modify, h]
theorem set7_6 {w : World} {g : Nat} {c0 c1 c2 c3 c4 c5 c6 x : Value} {t : Nat} (h : w.heap[g]? = some (.cells #[c0, c1, c2, c3, c4, c5, c6] t (0, 0))) : (w.setCell ⟨g, 6, none⟩ x).heap[g]? = some (.cells #[c0, c1, c2, c3, c4, c5, x] t (0, 0)) := by
  simp [World.setCell, Array.getElem?_modify, h]
theorem But.sea {gr : Nat} {vf : Value} {w w' : World} (h : But gr w w') : SeaFr gr vf w w' := ⟨h.os, h.tape, h.output, h.size, fun b hb hg _ => h.block b hb hg⟩
theorem FoO.but {gr base : Nat} {vf : Value} {w w' : World} {F : List (List Int)} (h : FoO w base vf F) (k : But gr w w') (hg : Blk w gr 94) : FoO w' base vf F := by
  obtain ⟨us, o, l, q⟩ := h
  refine ⟨us, o.kept k.grown ?_, l, fun i hi => by obtain ⟨u, p, r⟩ := q i hi; exact ⟨u, p, r.kpx (k.kpx hg) (by decide)⟩⟩
  by_cases e : vf.ownBlock = none
  · exact .inl e
  · exact .inr fun e2 => ((o.blk e2).ne hg (by decide)) rfl
def SpPost (base gr : Nat) (vs vf : Value) (most : Nat) (s : Sea) (w : World) (e : Ending) (w' : World) : Prop := e = .returned (.bool s.step.1) ∧ SeaB w' base gr vs vf most s.step.2 ∧ But gr w w'
theorem step_any {w : World} {base gr most : Nat} {vs vf : Value} {s : Sea} (h : SeaB w base gr vs vf most s) (hf : s.fuel ≤ 1000000) : Calls Tryz.prog 96 #[.pointer (some ⟨gr, 0, none⟩)] w (SpPost base gr vs vf most s w) := by
  obtain ⟨R, hRr⟩ : ∃ R : Ending → World → Prop, R = SpPost base gr vs vf most s w := ⟨_, rfl⟩
  rw [← hRr]
  have HR := Lib.hid hRr; have H := Lib.hid h
  obtain ⟨p0, p1, p2, p3, p4, p5, p6⟩ := three_cells7 h.row
  have fz4 := seven h.row 4; have fz6 := seven h.row 6
  clear hRr h p0 p1 p2 p3 p5
  by_cases f0 : s.fuel = 0
  · have E : Hid (s.step = (false, { s with out := true })) := by show _ = _; unfold Sea.step; rw [if_pos f0]
    have ff : ((s.fuel : Int) == 0) = true := by simp [f0]
    obtain ⟨W9, hW9⟩ : ∃ W9, w.setCell ⟨gr, 6, none⟩ (.bool true) = W9 := ⟨_, rfl⟩
    have B9 : Hid (But gr w W9) := by show But _ _ _; rw [← hW9]; exact But.setCell _ _ _ _
    have S9 : Hid (SeaB W9 base gr vs vf most { s with out := true }) := ⟨by rw [← hW9]; exact set7_6 H.out.row, H.out.fo.but B9.out ⟨_, H.out.row⟩⟩
    clear f0
    go_enter Tryz.func96, Tryz.ntmps96
    go_wp2_with fail
    rw [HR.out]
    exact ⟨by rw [E.out]; rfl, by rw [E.out]; exact S9.out, B9.out⟩
  · have E : Hid (s.step = (true, { s with fuel := s.fuel - 1 })) := by show _ = _; unfold Sea.step; rw [if_neg f0]
    have ff : ((s.fuel : Int) == 0) = false := by simp; exact f0
    have fi : (s.fuel : Int) - 1 = ((s.fuel - 1 : Nat) : Int) := by omega
    have fp : (0 : Int) < (s.fuel : Int) := by omega
    obtain ⟨W9, hW9⟩ : ∃ W9, w.setCell ⟨gr, 4, none⟩ (.int .i64 ((s.fuel - 1 : Nat) : Int)) = W9 := ⟨_, rfl⟩
    have B9 : Hid (But gr w W9) := by show But _ _ _; rw [← hW9]; exact But.setCell _ _ _ _
    have S9 : Hid (SeaB W9 base gr vs vf most { s with fuel := s.fuel - 1 }) := ⟨by rw [← hW9]; exact set7_4 H.out.row, H.out.fo.but B9.out ⟨_, H.out.row⟩⟩
    clear f0
    go_enter Tryz.func96, Tryz.ntmps96
    go_wp2_with fail
    rw [HR.out]
    exact ⟨by rw [E.out]; rfl, by rw [E.out]; exact S9.out, B9.out⟩
end Go.Proofs.YteiohgiecpibhaaGreat
