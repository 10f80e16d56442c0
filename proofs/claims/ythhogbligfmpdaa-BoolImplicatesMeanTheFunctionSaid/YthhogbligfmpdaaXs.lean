/- Models: what its closure finds in memory. -/
import Derived.Test.YthhogbligfmpdaaXq
import Derived.Test.YthhogbligfmpdaaXr
set_option linter.unusedVariables false
set_option linter.unusedSimpArgs false
namespace Go.Proofs.Ythhogbligfmpdaa
open Go.RowKit Bd

/-- Where the variables of Models lie. -/
structure MB where
  ba : Nat
  bv : Nat
  bm : Nat
  bo : Nat
  g : Nat
  bn : Nat
  bw : Nat
  top : Nat
  base : Nat
  h0 : base ≤ ba
  h1 : ba < bv
  h2 : bv < bm
  h3 : bm < bo
  h4 : bo < g
  h5 : g < bn
  h6 : bn < bw
  h7 : bw < top

def MB.caps (B : MB) : Array Value := #[.pointer (some ⟨B.bo, 0, none⟩), .pointer (some ⟨B.bm, 0, none⟩), .pointer (some ⟨B.bv, 0, none⟩), .pointer (some ⟨B.bn, 0, none⟩), .pointer (some ⟨B.ba, 0, none⟩), .pointer (some ⟨B.bw, 0, none⟩)]

/-- An inner list: in memory of its own. -/
def In1 (T : Nat) (w : World) (ov : Value) (l : List Int) (a : Option Addr) : Prop := l ≠ [] → ∃ g, a = some ⟨g, 0, none⟩ ∧ T ≤ g ∧ ov.ownBlock ≠ some g ∧ ∀ j, j < l.length → w.cell? ⟨g, j, none⟩ = some (.int .i64 (l.getD j 0))

/-- Lists in memory from block T on, in a row of its own. -/
structure LLs (T : Nat) (w : World) (ov : Value) (ls : List (List Int)) (vals : List Value) : Prop where
  row : w.ownsRow T 53 1 ov ls.length vals
  each : ∀ i, i < ls.length → ∃ a cap, vals[i]? = some (.slice a (ls.getD i []).length cap) ∧ In1 T w ov (ls.getD i []) a

theorem LLs.nil (T : Nat) (w : World) : LLs T w (.slice none 0 0) [] [] := ⟨⟨rfl, Or.inl ⟨rfl, rfl⟩⟩, fun i hi => by simp at hi⟩

theorem In1.keep {T : Nat} {w w' : World} {ov : Value} {l : List Int} {a : Option Addr} (h : In1 T w ov l a) (hk : ∀ b, T ≤ b → b < w.heap.size → w'.heap[b]? = w.heap[b]?) : In1 T w' ov l a := by
  intro hne
  obtain ⟨g, e, hT, ho, hc⟩ := h hne
  refine ⟨g, e, hT, ho, fun j hj => ?_⟩
  exact (World.cell?_of_block (a := ⟨g, j, none⟩) (hk g hT (lt_of_cell (hc j hj)))).trans (hc j hj)
theorem LLs.keep {T : Nat} {w w' : World} {ov : Value} {ls : List (List Int)} {vals : List Value} (h : LLs T w ov ls vals) (hk : ∀ b, T ≤ b → b < w.heap.size → w'.heap[b]? = w.heap[b]?) : LLs T w' ov ls vals := by
  refine ⟨⟨h.row.1, ?_⟩, fun i hi => ?_⟩
  · rcases h.row.2 with h1 | ⟨g, cap, cur, hv, hT, hg, r⟩
    · exact Or.inl h1
    · exact Or.inr ⟨g, cap, cur, hv, hT, (hk g hT (lt_of_some hg)).trans hg, r⟩
  · obtain ⟨a, cap, e, h1⟩ := h.each i hi
    exact ⟨a, cap, e, h1.keep hk⟩

/-- As a plain reading. -/
theorem LLs.lAt {T : Nat} {w : World} {a : Option Addr} {n cap : Nat} {ls : List (List Int)} {vals : List Value} (h : LLs T w (.slice a n cap) ls vals) : LAt w ls a ∧ n = ls.length := by
  rcases h.row.2 with ⟨h1, h2⟩ | ⟨g, cap', cur, hv, _⟩
  · have : ls = [] := List.length_eq_zero_iff.1 h2
    subst this
    injection h1 with e1 e2 e3
    exact ⟨lAt_nil _ _, e2⟩
  · have hr := h.row
    rw [hv] at hr
    injection hv with e1 e2 e3
    subst e1
    refine ⟨fun hne => ⟨g, 0, rfl, fun i hi => ?_⟩, e2⟩
    obtain ⟨ai, ci, h1, h2⟩ := h.each i hi
    refine ⟨ai, ci, ?_, fun hn => ?_⟩
    · rw [Nat.zero_add, hr.cellAt i (by omega)]; exact h1
    · obtain ⟨g', e', _, _, hc⟩ := h2 hn
      exact ⟨g', 0, e', fun j hj => by rw [Nat.zero_add]; exact hc j hj⟩

/-- A list more. -/
theorem LLs.push {T : Nat} {w w1 w2 : World} {ov ov' : Value} {ls : List (List Int)} {vals : List Value} {l : List Int} {a : Option Addr} {cap gr : Nat} (h : LLs T w ov ls vals) (hk : ∀ b, T ≤ b → b < w.heap.size → w1.heap[b]? = w.heap[b]?) (hs : w.heap.size ≤ w1.heap.size)
    (hin : l ≠ [] → ∃ g, a = some ⟨g, 0, none⟩ ∧ T ≤ g ∧ w.heap.size ≤ g ∧ g < w1.heap.size ∧ ∀ j, j < l.length → w1.cell? ⟨g, j, none⟩ = some (.int .i64 (l.getD j 0)))
    (hgrow : w1.grownBy w2 ov.ownBlock) (hrow : w2.ownsRow T 53 1 ov' (ls.length + 1) (vals ++ [.slice a l.length cap])) (hov : ov'.ownBlock = some gr) (hloc : ov.ownBlock = some gr ∨ w1.heap.size ≤ gr) : LLs T w2 ov' (ls ++ [l]) (vals ++ [.slice a l.length cap]) := by
  have hvl : vals.length = ls.length := by have := h.row.1; omega
  have own : ∀ g, ov.ownBlock = some g → g < w.heap.size := fun g hg => (h.row.lt g hg).2
  have keep2 : ∀ b, b < w1.heap.size → ov.ownBlock ≠ some b → w2.heap[b]? = w1.heap[b]? := fun b hb hne => hgrow.block b hb (fun e => hne e.symm)
  refine ⟨by rw [List.length_append]; exact hrow, fun i hi => ?_⟩
  by_cases hil : i < ls.length
  · obtain ⟨ai, ci, e, h1⟩ := h.each i hil
    have eg : (ls ++ [l]).getD i [] = ls.getD i [] := by rw [List.getD_eq_getElem?_getD, List.getD_eq_getElem?_getD, List.getElem?_append_left hil]
    rw [eg]
    refine ⟨ai, ci, by rw [List.getElem?_append_left (by omega)]; exact e, fun hne => ?_⟩
    obtain ⟨g, e', hT, ho, hc⟩ := h1 hne
    have hpos : 0 < (ls.getD i []).length := List.length_pos_iff.2 hne
    have hgl : g < w.heap.size := lt_of_cell (hc 0 hpos)
    refine ⟨g, e', hT, ?_, fun j hj => ?_⟩
    · rw [hov]
      intro x
      injection x with x
      subst x
      rcases hloc with y | y
      · exact ho y
      · omega
    · have hb := (keep2 g (by omega) ho).trans (hk g hT hgl)
      exact (World.cell?_of_block (a := ⟨g, j, none⟩) hb).trans (hc j hj)
  · have hi' : i = ls.length := by simp at hi; omega
    subst hi'
    have eg : (ls ++ [l]).getD ls.length [] = l := by rw [List.getD_eq_getElem?_getD, List.getElem?_append_right (Nat.le_refl _)]; simp
    rw [eg]
    refine ⟨a, cap, by rw [List.getElem?_append_right (by omega), hvl]; simp, fun hne => ?_⟩
    obtain ⟨g, e', hT, hg, hgl, hc⟩ := hin hne
    refine ⟨g, e', hT, ?_, fun j hj => ?_⟩
    · rw [hov]
      intro x
      injection x with x
      subst x
      rcases hloc with y | y
      · have := own _ y; omega
      · omega
    · have hne' : ov.ownBlock ≠ some g := fun y => by have := own _ y; omega
      exact (World.cell?_of_block (a := ⟨g, j, none⟩) (keep2 g hgl hne')).trans (hc j hj)

/-- The closure's memory: the lists found so far, the assignment now. -/
structure MS (B : MB) (ds : List Nd) (aa : Option Addr) (n ca : Nat) (root : Int) (vars most : Nat) (w : World) (ov : Value) (ls : List (List Int)) (nw : List Int) : Prop where
  co : w.heap[B.bo]? = some (.cells #[ov] 44 (0, 0))
  cm : w.heap[B.bm]? = some (.cells #[.int .i64 most] 3 (0, 0))
  cv : w.heap[B.bv]? = some (.cells #[.int .i64 vars] 3 (0, 0))
  cn : w.heap[B.bn]? = some (.cells #[.slice (some ⟨B.g, 0, none⟩) vars vars] 53 (0, 0))
  cda : w.heap[B.ba]? = some (.cells #[.slice aa n ca, .int .i64 root] 27 (0, 0))
  cw : w.heap[B.bw]? = some (.cells #[.func (.func 59) #[] B.caps] 82 (0, 0))
  nl : nw.length = vars
  now : ∀ j, j < vars → w.cell? ⟨B.g, j, none⟩ = some (.int .i64 (nw.getD j 0))
  fz : ∀ j, w.frozen? ⟨B.g, j, none⟩ = false
  out : ∃ vals, LLs B.top w ov ls vals
  da : DAt w ds aa
  dlt : ∀ b o, ds ≠ [] → aa = some ⟨b, o, none⟩ → b < B.base
  sz : B.top ≤ w.heap.size

/-- What may turn: the variable out, the array now, and what lies behind all variables. -/
structure MK (B : MB) (w w' : World) : Prop where
  os : w'.os = w.os
  tape : w'.tape = w.tape
  output : w'.output = w.output
  size : w.heap.size ≤ w'.heap.size
  keep : ∀ k, k < B.top → k ≠ B.bo → k ≠ B.g → w'.heap[k]? = w.heap[k]?

theorem MK.refl (B : MB) (w : World) : MK B w w := ⟨rfl, rfl, rfl, Nat.le_refl _, fun _ _ _ _ => rfl⟩
theorem MK.trans {B : MB} {a b c : World} (h : MK B a b) (k : MK B b c) : MK B a c :=
  ⟨k.os.trans h.os, k.tape.trans h.tape, k.output.trans h.output, Nat.le_trans h.size k.size, fun j h1 h2 h3 => (k.keep j h1 h2 h3).trans (h.keep j h1 h2 h3)⟩

section
variable {B : MB} {ds : List Nd} {aa : Option Addr} {n ca vars most : Nat} {root : Int} {w w' : World} {ov : Value} {ls : List (List Int)} {nw : List Int}

/-- Nothing that was there has turned. -/
theorem MS.same (h : MS B ds aa n ca root vars most w ov ls nw) (hk : ∀ b, b < w.heap.size → w'.heap[b]? = w.heap[b]?) (hs : w.heap.size ≤ w'.heap.size) : MS B ds aa n ca root vars most w' ov ls nw := by
  have hz := h.sz
  have := B.h1; have := B.h2; have := B.h3; have := B.h4; have := B.h5; have := B.h6; have := B.h7
  have gb : w'.heap[B.g]? = w.heap[B.g]? := hk _ (by omega)
  refine ⟨(hk _ (by omega)).trans h.co, (hk _ (by omega)).trans h.cm, (hk _ (by omega)).trans h.cv, (hk _ (by omega)).trans h.cn, (hk _ (by omega)).trans h.cda, (hk _ (by omega)).trans h.cw, h.nl,
    fun j hj => (World.cell?_of_block (a := ⟨B.g, j, none⟩) gb).trans (h.now j hj), fun j => ?_, ?_, ?_, h.dlt, by omega⟩
  · have e : w'.frozen? ⟨B.g, j, none⟩ = w.frozen? ⟨B.g, j, none⟩ := by simp only [World.frozen?, gb]
    rw [e]; exact h.fz j
  · obtain ⟨vals, hv⟩ := h.out
    exact ⟨vals, hv.keep fun b _ hb => hk b hb⟩
  · intro hne
    obtain ⟨b, o, e, hc⟩ := h.da hne
    refine ⟨b, o, e, fun i hi => ?_⟩
    have hb := hk b (lt_of_cell (hc i hi).1)
    exact ⟨(World.cell?_of_block (a := ⟨b, o + i * 3, none⟩) hb).trans (hc i hi).1, (World.cell?_of_block (a := ⟨b, o + i * 3 + 1, none⟩) hb).trans (hc i hi).2.1, (World.cell?_of_block (a := ⟨b, o + i * 3 + 2, none⟩) hb).trans (hc i hi).2.2⟩

/-- 'now[v] = x'. -/
theorem MS.setNow (h : MS B ds aa n ca root vars most w ov ls nw) {v : Nat} (hv : v < vars) (x : Int) : MS B ds aa n ca root vars most (w.setCell ⟨B.g, v, none⟩ (.int .i64 x)) ov ls (nw.set v x) ∧ MK B w (w.setCell ⟨B.g, v, none⟩ (.int .i64 x)) := by
  have hz := h.sz
  have := B.h0; have := B.h1; have := B.h2; have := B.h3; have := B.h4; have := B.h5; have := B.h6; have := B.h7
  have kp : ∀ b, b ≠ B.g → (w.setCell ⟨B.g, v, none⟩ (.int .i64 x)).heap[b]? = w.heap[b]? := fun b hb => Below.heap_setCell _ _ _ _ hb
  have se : (w.setCell ⟨B.g, v, none⟩ (.int .i64 x)).heap.size = w.heap.size := by simp [World.setCell]
  refine ⟨⟨(kp _ (by omega)).trans h.co, (kp _ (by omega)).trans h.cm, (kp _ (by omega)).trans h.cv, (kp _ (by omega)).trans h.cn, (kp _ (by omega)).trans h.cda, (kp _ (by omega)).trans h.cw, by simp [h.nl], fun j hj => ?_, fun j => ?_, ?_, ?_, h.dlt, by omega⟩, ⟨rfl, rfl, rfl, by omega, fun k _ _ h3 => kp k h3⟩⟩
  · by_cases e : j = v
    · subst e
      rw [World.cell?_setCell_same _ _ _ (h.now j hj), List.getD_eq_getElem?_getD, List.getElem?_set_self (by rw [h.nl]; exact hj)]; rfl
    · rw [World.cell?_setCell_other _ _ _ _ (by intro e2; exact e (congrArg Addr.off e2).symm), h.now j hj, List.getD_eq_getElem?_getD, List.getD_eq_getElem?_getD, List.getElem?_set_ne (fun e2 => e e2.symm)]
  · rw [World.frozen?_setCell]; exact h.fz j
  · obtain ⟨vals, hv'⟩ := h.out
    exact ⟨vals, hv'.keep fun b hT _ => kp b (by omega)⟩
  · intro hne
    obtain ⟨b, o, e, hc⟩ := h.da hne
    have hbb := h.dlt b o hne e
    refine ⟨b, o, e, fun i hi => ?_⟩
    have hb := kp b (by omega)
    exact ⟨(World.cell?_of_block (a := ⟨b, o + i * 3, none⟩) hb).trans (hc i hi).1, (World.cell?_of_block (a := ⟨b, o + i * 3 + 1, none⟩) hb).trans (hc i hi).2.1, (World.cell?_of_block (a := ⟨b, o + i * 3 + 2, none⟩) hb).trans (hc i hi).2.2⟩

/-- 'out = append(out, slices.Clone(now))': w1 behind the clone and the laid element, w2 behind the append; then the store. -/
theorem MS.pushOut {w1 w2 : World} {ov' : Value} {gc cc gr : Nat} {vals : List Value} (h : MS B ds aa n ca root vars most w ov ls nw) (hv : LLs B.top w ov ls vals) (hk : ∀ b, b < w.heap.size → w1.heap[b]? = w.heap[b]?) (h1s : w1.os = w.os ∧ w1.tape = w.tape ∧ w1.output = w.output) (hs : w.heap.size ≤ w1.heap.size)
    (hgc : w.heap.size ≤ gc) (hgl : gc < w1.heap.size) (hcl : ∀ j, j < nw.length → w1.cell? ⟨gc, j, none⟩ = some (.int .i64 (nw.getD j 0)))
    (hgrow : w1.grownBy w2 ov.ownBlock) (hrow : w2.ownsRow B.top 53 1 ov' (ls.length + 1) (vals ++ [.slice (some ⟨gc, 0, none⟩) nw.length cc])) (hov : ov'.ownBlock = some gr) (hloc : ov.ownBlock = some gr ∨ w1.heap.size ≤ gr) :
    MS B ds aa n ca root vars most (w2.setCell ⟨B.bo, 0, none⟩ ov') ov' (ls ++ [nw]) nw ∧ MK B w (w2.setCell ⟨B.bo, 0, none⟩ ov') := by
  have hz := h.sz
  have := B.h0; have := B.h1; have := B.h2; have := B.h3; have := B.h4; have := B.h5; have := B.h6; have := B.h7
  have own : ∀ g, ov.ownBlock = some g → B.top ≤ g ∧ g < w.heap.size := fun g hg => hv.row.lt g hg
  have k2 : ∀ b, b < w.heap.size → ov.ownBlock ≠ some b → w2.heap[b]? = w.heap[b]? := fun b hb hne => (hgrow.block b (by omega) (fun e => hne e.symm)).trans (hk b hb)
  have kp : ∀ b, b < B.top → b ≠ B.bo → (w2.setCell ⟨B.bo, 0, none⟩ ov').heap[b]? = w.heap[b]? := fun b hb hne => by
    rw [Below.heap_setCell _ _ _ _ hne]
    exact k2 b (by omega) (fun e => by have := (own b e).1; omega)
  have hs2 : w1.heap.size ≤ w2.heap.size := hgrow.size
  have se : (w2.setCell ⟨B.bo, 0, none⟩ ov').heap.size = w2.heap.size := by simp [World.setCell]
  have gb : (w2.setCell ⟨B.bo, 0, none⟩ ov').heap[B.g]? = w.heap[B.g]? := kp _ (by omega) (by omega)
  have LL := hv.push (l := nw) (a := some ⟨gc, 0, none⟩) (cap := cc) (fun b _ hb => hk b hb) hs (fun _ => ⟨gc, rfl, by omega, hgc, hgl, hcl⟩) hgrow hrow hov hloc
  refine ⟨⟨?_, (kp _ (by omega) (by omega)).trans h.cm, (kp _ (by omega) (by omega)).trans h.cv, (kp _ (by omega) (by omega)).trans h.cn, (kp _ (by omega) (by omega)).trans h.cda, (kp _ (by omega) (by omega)).trans h.cw, h.nl,
    fun j hj => (World.cell?_of_block (a := ⟨B.g, j, none⟩) gb).trans (h.now j hj), fun j => ?_, ?_, ?_, h.dlt, by omega⟩, ⟨hgrow.os.trans h1s.1, hgrow.tape.trans h1s.2.1, hgrow.output.trans h1s.2.2, by omega, fun k h1 h2 _ => kp k h1 h2⟩⟩
  · have e := (k2 B.bo (by omega) (fun e => by have := (own _ e).1; omega)).trans h.co
    have hlt := lt_of_some e
    simp [World.setCell, Array.getElem?_modify, e]
  · have e : (w2.setCell ⟨B.bo, 0, none⟩ ov').frozen? ⟨B.g, j, none⟩ = w.frozen? ⟨B.g, j, none⟩ := by simp only [World.frozen?, gb]
    rw [e]; exact h.fz j
  · exact ⟨_, LL.keep fun b hT hb => Below.heap_setCell _ _ _ _ (by show b ≠ B.bo; omega)⟩
  · intro hne
    obtain ⟨b, o, e, hc⟩ := h.da hne
    have hbb := h.dlt b o hne e
    refine ⟨b, o, e, fun i hi => ?_⟩
    have hb := kp b (by omega) (by omega)
    exact ⟨(World.cell?_of_block (a := ⟨b, o + i * 3, none⟩) hb).trans (hc i hi).1, (World.cell?_of_block (a := ⟨b, o + i * 3 + 1, none⟩) hb).trans (hc i hi).2.1, (World.cell?_of_block (a := ⟨b, o + i * 3 + 2, none⟩) hb).trans (hc i hi).2.2⟩
end

theorem take_push {α : Type} (X Y : List α) (m : Nat) : (X.take m ++ Y).take m = (X ++ Y).take m := by
  by_cases h : m ≤ X.length
  · rw [List.take_append_of_le_length (by simp; omega), List.take_take, Nat.min_self, List.take_append_of_le_length h]
  · rw [List.take_of_length_le (by omega : X.length ≤ m)]
theorem set_take {α : Type} (l : List α) (v : Nat) (x : α) (h : v < l.length) : (l.set v x).take v = l.take v ∧ (l.set v x).take (v + 1) = l.take v ++ [x] := by
  refine ⟨by rw [List.take_set_of_le (Nat.le_refl _)], ?_⟩
  rw [List.take_succ_eq_append_getElem (by simpa using h), List.take_set_of_le (Nat.le_refl _)]
  simp

end Go.Proofs.Ythhogbligfmpdaa
