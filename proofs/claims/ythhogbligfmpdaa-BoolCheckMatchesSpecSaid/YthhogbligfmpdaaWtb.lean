/- The reference's walk: the box with the diagram in the making. -/
import Derived.Test.YthhogbligfmpdaaWt
set_option linter.unusedVariables false
set_option linter.unusedSimpArgs false
namespace Go.Proofs.Ythhogbligfmpdaa
open Go.RowKit Bd

theorem row_typ {w : World} {base e size n : Nat} {v : Value} {xs : List Value} (h : w.ownsRow base e size v n xs) {g : Nat} (hg : v.ownBlock = some g) : ∃ cur, w.heap[g]? = some (.cells cur e (0, 0)) := by
  rcases h.2 with ⟨e1, _⟩ | ⟨g1, c1, cur1, e1, _, b1, _⟩
  · rw [e1] at hg; simp [Value.ownBlock] at hg
  · rw [e1] at hg
    simp only [Value.ownBlock, Option.some.injEq] at hg
    subst hg
    exact ⟨_, b1⟩

structure BX (w wn : World) (tb : Nat) (u1 u2 v1 v2 : Value) (lg : Bool) (n1 n2 : Nat) (xs1 xs2 : List Value) : Prop where
  box : wn.heap[w.heap.size]? = some (.cells #[v1, v2, .bool lg] 71 (0, 0))
  res : wn.heap[w.heap.size + 1]? = some (.cells #[.slice none 0 0, .slice none 0 0, .bool false] 71 (0, 0))
  row1 : wn.ownsRow 0 77 3 v1 n1 xs1
  row2 : wn.ownsRow 0 33 1 v2 n2 xs2
  fs : FS2 w u1 u2 wn v1 v2
  tbk : wn.heap[tb]? = w.heap[tb]?
  tlt : tb < w.heap.size
  far1 : v1.ownBlock ≠ some tb
  far2 : v2.ownBlock ≠ some tb

namespace BX
variable {w wn : World} {tb : Nat} {u1 u2 v1 v2 : Value} {lg : Bool} {n1 n2 : Nat} {xs1 xs2 : List Value}

theorem ne1 (h : BX w wn tb u1 u2 v1 v2 lg n1 n2 xs1 xs2) : v1.ownBlock ≠ some w.heap.size ∧ v1.ownBlock ≠ some (w.heap.size + 1) := by
  constructor
  · intro e; obtain ⟨cur, b⟩ := row_typ h.row1 e; rw [h.box] at b; simp at b
  · intro e; obtain ⟨cur, b⟩ := row_typ h.row1 e; rw [h.res] at b; simp at b
theorem ne2 (h : BX w wn tb u1 u2 v1 v2 lg n1 n2 xs1 xs2) : v2.ownBlock ≠ some w.heap.size ∧ v2.ownBlock ≠ some (w.heap.size + 1) := by
  constructor
  · intro e; obtain ⟨cur, b⟩ := row_typ h.row2 e; rw [h.box] at b; simp at b
  · intro e; obtain ⟨cur, b⟩ := row_typ h.row2 e; rw [h.res] at b; simp at b
theorem ne12 (h : BX w wn tb u1 u2 v1 v2 lg n1 n2 xs1 xs2) {g : Nat} (e : v1.ownBlock = some g) : v2.ownBlock ≠ some g := by
  intro e2
  obtain ⟨cur, b⟩ := row_typ h.row1 e
  obtain ⟨cur2, b2⟩ := row_typ h.row2 e2
  rw [b] at b2; simp at b2

theorem of_kept (h : BX w wn tb u1 u2 v1 v2 lg n1 n2 xs1 xs2) {w' : World} (hh : w'.heap = wn.heap) (ho : w'.os = wn.os) (ht : w'.tape = wn.tape) (hu : w'.output = wn.output) : BX w w' tb u1 u2 v1 v2 lg n1 n2 xs1 xs2 := by
  have hk : ∀ k : Nat, w'.heap[k]? = wn.heap[k]? := fun k => by rw [hh]
  exact ⟨(hk _).trans h.box, (hk _).trans h.res, ownsRow_of_block h.row1 fun g _ => hk g, ownsRow_of_block h.row2 fun g _ => hk g, ⟨ho.trans h.fs.os, ht.trans h.fs.tape, hu.trans h.fs.output, by rw [hh]; exact h.fs.size, fun k a b c => (hk k).trans (h.fs.keep k a b c), h.fs.loc1, h.fs.loc2⟩, (hk _).trans h.tbk, h.tlt, h.far1, h.far2⟩
theorem drew (h : BX w wn tb u1 u2 v1 v2 lg n1 n2 xs1 xs2) : BX w wn.drew tb u1 u2 v1 v2 lg n1 n2 xs1 xs2 := h.of_kept rfl rfl rfl rfl

/-- A call has turned the rows; the box holds what it gave. -/
theorem call (h : BX w wn tb u1 u2 v1 v2 lg n1 n2 xs1 xs2) {w3 w4 : World} {v1' v2' : Value} {acc' : List Key} {N' : List Nd} {S' : List Value} {lg' : Bool} (hm : MD w3 tb v1' v2' acc' N' S') (hf : FS2 wn v1 v2 w3 v1' v2')
    (hb : w4.heap[w.heap.size]? = some (.cells #[v1', v2', .bool lg'] 71 (0, 0))) (ho : ∀ k, k ≠ w.heap.size → w4.heap[k]? = w3.heap[k]?) (hz : w4.heap.size = w3.heap.size) (h1 : w4.os = w3.os) (h2 : w4.tape = w3.tape) (h3 : w4.output = w3.output) :
    BX w w4 tb u1 u2 v1' v2' lg' N'.length acc'.length (nsC N') S' := by
  have hl := lt_of_some h.res
  have n1 := h.ne1
  have n2 := h.ne2
  have hl1 : v1'.ownBlock ≠ some w.heap.size := fun e => by
    rcases hf.loc1 _ e with e' | e'
    · exact n1.1 e'
    · omega
  have hl2 : v2'.ownBlock ≠ some w.heap.size := fun e => by
    rcases hf.loc2 _ e with e' | e'
    · exact n2.1 e'
    · omega
  have f2 := h.fs.trans hf
  have tl := h.tlt
  refine ⟨hb, ?_, ?_, ?_, ?_, ?_, h.tlt, hm.far1, hm.far2⟩
  · rw [ho _ (by omega), hf.keep _ (by omega) n1.2 n2.2]; exact h.res
  · exact ownsRow_of_block hm.row1 fun g hg => ho g fun e => hl1 (by rw [hg, e])
  · exact ownsRow_of_block hm.row2 fun g hg => ho g fun e => hl2 (by rw [hg, e])
  · exact ⟨h1.trans f2.os, h2.trans f2.tape, h3.trans f2.output, by rw [hz]; exact f2.size, fun k a b c => (ho k (by omega)).trans (f2.keep k a b c), f2.loc1, f2.loc2⟩
  · rw [ho _ (by omega), hf.keep _ (by omega) h.far1 h.far2]; exact h.tbk

theorem push1 (h : BX w wn tb u1 u2 v1 v2 lg n1 n2 xs1 xs2) {o : Obj} {w5 : World} {g n1' c : Nat} {xs1' : List Value} (hg : (wn.alloc o).grownBy w5 v1.ownBlock) (hown : w5.ownsRow 0 77 3 (.slice (some ⟨g, 0, none⟩) n1' c) n1' xs1') (hat : v1.ownBlock = some g ∨ g = wn.heap.size + 1) :
    BX w (w5.setCell ⟨w.heap.size, 0, none⟩ (.slice (some ⟨g, 0, none⟩) n1' c)) tb u1 u2 (.slice (some ⟨g, 0, none⟩) n1' c) v2 lg n1' n2 xs1' xs2 := by
  have keep : ∀ j, j < wn.heap.size → v1.ownBlock ≠ some j → w5.heap[j]? = wn.heap[j]? := by
    intro j hj hne
    rw [hg.block j (by simp; omega) (fun e => hne e.symm)]
    exact Below.heap_alloc wn o j hj
  have hsz := hg.size
  simp at hsz
  have hl := lt_of_some h.res
  have n1 := h.ne1
  have n2 := h.ne2
  have tl := h.tlt
  have hz := h.fs.size
  have hgb : g ≠ w.heap.size := by
    rcases hat with e | e
    · intro e2; subst e2; exact n1.1 e
    · omega
  have oth : ∀ k, k ≠ w.heap.size → (w5.setCell ⟨w.heap.size, 0, none⟩ (.slice (some ⟨g, 0, none⟩) n1' c)).heap[k]? = w5.heap[k]? := fun k hk => Below.heap_setCell _ _ _ _ hk
  refine ⟨?_, ?_, ?_, ?_, ⟨hg.os.trans h.fs.os, hg.tape.trans h.fs.tape, hg.output.trans h.fs.output, ?_, ?_, ?_, h.fs.loc2⟩, ?_, h.tlt, ?_, h.far2⟩
  · have := setCell_block (w := w5) (a := ⟨w.heap.size, 0, none⟩) (u := .slice (some ⟨g, 0, none⟩) n1' c) ((keep _ (by omega) n1.1).trans h.box) rfl
    simpa using this
  · rw [oth _ (by omega), keep _ hl n1.2]; exact h.res
  · exact ownsRow_of_block hown fun k hk => by
      simp only [Value.ownBlock, Option.some.injEq] at hk
      subst hk; exact oth _ hgb
  · refine ownsRow_of_block h.row2 fun k hk => ?_
    rw [oth k (fun e => n2.1 (by rw [hk, e])), keep k (h.row2.lt k hk).2 (fun e => h.ne12 e hk)]
  · show w.heap.size ≤ (w5.setCell _ _).heap.size
    simp; omega
  · intro k hk a b
    rw [oth k (by omega), keep k (by omega) ?_]
    · exact h.fs.keep k hk a b
    · intro e
      rcases h.fs.loc1 k e with e' | e'
      · exact a e'
      · omega
  · intro k hk
    simp only [Value.ownBlock, Option.some.injEq] at hk
    subst hk
    rcases hat with e | e
    · exact h.fs.loc1 _ e
    · right; omega
  · rw [oth _ (by omega), keep _ (by omega) h.far1]; exact h.tbk
  · intro hk
    simp only [Value.ownBlock, Option.some.injEq] at hk
    subst hk
    rcases hat with e | e
    · exact h.far1 e
    · omega

theorem push2 (h : BX w wn tb u1 u2 v1 v2 lg n1 n2 xs1 xs2) {o : Obj} {w5 : World} {g n1' c : Nat} {xs1' : List Value} (hg : (wn.alloc o).grownBy w5 v2.ownBlock) (hown : w5.ownsRow 0 33 1 (.slice (some ⟨g, 0, none⟩) n1' c) n1' xs1') (hat : v2.ownBlock = some g ∨ g = wn.heap.size + 1) :
    BX w (w5.setCell ⟨w.heap.size, 1, none⟩ (.slice (some ⟨g, 0, none⟩) n1' c)) tb u1 u2 v1 (.slice (some ⟨g, 0, none⟩) n1' c) lg n1 n1' xs1 xs1' := by
  have keep : ∀ j, j < wn.heap.size → v2.ownBlock ≠ some j → w5.heap[j]? = wn.heap[j]? := by
    intro j hj hne
    rw [hg.block j (by simp; omega) (fun e => hne e.symm)]
    exact Below.heap_alloc wn o j hj
  have hsz := hg.size
  simp at hsz
  have hl := lt_of_some h.res
  have n1 := h.ne1
  have n2 := h.ne2
  have tl := h.tlt
  have hz := h.fs.size
  have hgb : g ≠ w.heap.size := by
    rcases hat with e | e
    · intro e2; subst e2; exact n2.1 e
    · omega
  have oth : ∀ k, k ≠ w.heap.size → (w5.setCell ⟨w.heap.size, 1, none⟩ (.slice (some ⟨g, 0, none⟩) n1' c)).heap[k]? = w5.heap[k]? := fun k hk => Below.heap_setCell _ _ _ _ hk
  refine ⟨?_, ?_, ?_, ?_, ⟨hg.os.trans h.fs.os, hg.tape.trans h.fs.tape, hg.output.trans h.fs.output, ?_, ?_, h.fs.loc1, ?_⟩, ?_, h.tlt, h.far1, ?_⟩
  · have := setCell_block (w := w5) (a := ⟨w.heap.size, 1, none⟩) (u := .slice (some ⟨g, 0, none⟩) n1' c) ((keep _ (by omega) n2.1).trans h.box) rfl
    simpa using this
  · rw [oth _ (by omega), keep _ hl n2.2]; exact h.res
  · refine ownsRow_of_block h.row1 fun k hk => ?_
    rw [oth k (fun e => n1.1 (by rw [hk, e])), keep k (h.row1.lt k hk).2 (fun e => h.ne12 hk e)]
  · exact ownsRow_of_block hown fun k hk => by
      simp only [Value.ownBlock, Option.some.injEq] at hk
      subst hk; exact oth _ hgb
  · show w.heap.size ≤ (w5.setCell _ _).heap.size
    simp; omega
  · intro k hk a b
    rw [oth k (by omega), keep k (by omega) ?_]
    · exact h.fs.keep k hk a b
    · intro e
      rcases h.fs.loc2 k e with e' | e'
      · exact b e'
      · omega
  · intro k hk
    simp only [Value.ownBlock, Option.some.injEq] at hk
    subst hk
    rcases hat with e | e
    · exact h.fs.loc2 _ e
    · right; omega
  · rw [oth _ (by omega), keep _ (by omega) h.far2]; exact h.tbk
  · intro hk
    simp only [Value.ownBlock, Option.some.injEq] at hk
    subst hk
    rcases hat with e | e
    · exact h.far2 e
    · omega

/-- What lies in the box is what is given back. -/
theorem md (h : BX w wn tb u1 u2 v1 v2 lg n1 n2 xs1 xs2) {acc : List Key} {N : List Nd} {S : List Value} (hn : N.length = acc.length) (hs : S.length = acc.length) (hv : ∀ i, i < acc.length → (nd N i).1 = 16 - ((acc.getD i (0, [])).1 : Int))
    (ht : ∀ i, i < acc.length → ∃ o c, S[i]? = some (.slice (some ⟨tb, o, none⟩) (acc.getD i (0, [])).2.length c) ∧ TAt w (acc.getD i (0, [])).2 tb o ∧ (acc.getD i (0, [])).2.length = 2 ^ (acc.getD i (0, [])).1)
    (e1 : n1 = N.length) (e2 : n2 = acc.length) (e3 : xs1 = nsC N) (e4 : xs2 = S) : MD wn tb v1 v2 acc N S := by
  subst e1; subst e2; subst e3; subst e4
  refine ⟨hn, hs, hv, h.row1, h.row2, ?_, h.far1, h.far2, Nat.lt_of_lt_of_le h.tlt h.fs.size⟩
  intro i hi
  obtain ⟨o, c, h1, h2, h3⟩ := ht i hi
  exact ⟨o, c, h1, h2.block h.tbk, h3⟩

/-- The result's box is written. -/
theorem ret (h : BX w wn tb u1 u2 v1 v2 lg n1 n2 xs1 xs2) {W : World} (ho : ∀ k, k ≠ w.heap.size + 1 → W.heap[k]? = wn.heap[k]?) (hz : W.heap.size = wn.heap.size) (h1 : W.os = wn.os) (h2 : W.tape = wn.tape) (h3 : W.output = wn.output) :
    FS2 w u1 u2 W v1 v2 ∧ ∀ acc N S, MD wn tb v1 v2 acc N S → MD W tb v1 v2 acc N S := by
  refine ⟨⟨h1.trans h.fs.os, h2.trans h.fs.tape, h3.trans h.fs.output, by rw [hz]; exact h.fs.size, fun k a b c => (ho k (by omega)).trans (h.fs.keep k a b c), h.fs.loc1, h.fs.loc2⟩, ?_⟩
  intro acc N S hm
  refine hm.of_blocks (by omega) fun k hk => ho k fun e => ?_
  subst e
  rcases hk with e | e | e
  · have := h.tlt; omega
  · exact h.ne1.2 e
  · exact h.ne2.2 e
theorem fin (h : BX w wn tb u1 u2 v1 v2 lg n1 n2 xs1 xs2) {W : World} (ho : ∀ k, k ≠ w.heap.size → k ≠ w.heap.size + 1 → W.heap[k]? = wn.heap[k]?) (hz : W.heap.size = wn.heap.size) (h1 : W.os = wn.os) (h2 : W.tape = wn.tape) (h3 : W.output = wn.output) :
    FS2 w u1 u2 W v1 v2 ∧ ∀ acc N S, MD wn tb v1 v2 acc N S → MD W tb v1 v2 acc N S := by
  refine ⟨⟨h1.trans h.fs.os, h2.trans h.fs.tape, h3.trans h.fs.output, by rw [hz]; exact h.fs.size, fun k a b c => (ho k (by omega) (by omega)).trans (h.fs.keep k a b c), h.fs.loc1, h.fs.loc2⟩, ?_⟩
  intro acc N S hm
  refine hm.of_blocks (by omega) fun k hk => ?_
  have tl := h.tlt
  rcases hk with e | e | e
  · exact ho k (by omega) (by omega)
  · exact ho k (fun e2 => h.ne1.1 (by rw [e, e2])) (fun e2 => h.ne1.2 (by rw [e, e2]))
  · exact ho k (fun e2 => h.ne2.1 (by rw [e, e2])) (fun e2 => h.ne2.2 (by rw [e, e2]))

theorem box_grown (h : BX w wn tb u1 u2 v1 v2 lg n1 n2 xs1 xs2) {o : Obj} {w5 : World} {row : Option Nat} (hg : (wn.alloc o).grownBy w5 row) (hr : row ≠ some w.heap.size) : w5.heap[w.heap.size]? = some (.cells #[v1, v2, .bool lg] 71 (0, 0)) := by
  have hl := lt_of_some h.box
  rw [hg.block _ (by simp; omega) (fun e => hr e.symm)]
  exact (Below.heap_alloc wn o _ hl).trans h.box
end BX

/-- The lists behind a new entry. -/
theorem MD.lists {w w0 : World} {tb : Nat} {v1 v2 : Value} {acc : List Key} {N : List Nd} {S : List Value} (h : MD w tb v1 v2 acc N S) (hb : w0.heap[tb]? = w.heap[tb]?) {m : Nat} {t : List Bool} {o c : Nat} {r1 r2 : Int} (hl : t.length = 2 ^ (m + 1)) (ht : TAt w0 t tb o) :
    (N ++ [(15 - (m : Int), r1, r2)]).length = (acc ++ [(m + 1, t)]).length ∧ (S ++ [Value.slice (some ⟨tb, o, none⟩) t.length c]).length = (acc ++ [(m + 1, t)]).length ∧
    (∀ i, i < (acc ++ [(m + 1, t)]).length → (nd (N ++ [(15 - (m : Int), r1, r2)]) i).1 = 16 - (((acc ++ [(m + 1, t)]).getD i (0, [])).1 : Int)) ∧
    (∀ i, i < (acc ++ [(m + 1, t)]).length → ∃ o' c', (S ++ [Value.slice (some ⟨tb, o, none⟩) t.length c])[i]? = some (.slice (some ⟨tb, o', none⟩) ((acc ++ [(m + 1, t)]).getD i (0, [])).2.length c') ∧ TAt w0 ((acc ++ [(m + 1, t)]).getD i (0, [])).2 tb o' ∧ ((acc ++ [(m + 1, t)]).getD i (0, [])).2.length = 2 ^ ((acc ++ [(m + 1, t)]).getD i (0, [])).1) := by
  have e1 := h.len
  have e2 := h.slen
  refine ⟨by simp [e1], by simp [e2], ?_, ?_⟩
  · intro i hi
    simp only [List.length_append, List.length_cons, List.length_nil] at hi
    by_cases hia : i < acc.length
    · have := h.var i hia
      unfold nd at this ⊢
      rw [List.getD_eq_getElem?_getD, List.getD_eq_getElem?_getD, List.getElem?_append_left (by simp; omega), List.getElem?_append_left (by omega)]
      rw [List.getD_eq_getElem?_getD, List.getD_eq_getElem?_getD] at this
      exact this
    · obtain rfl : i = acc.length := by omega
      unfold nd
      rw [List.getD_eq_getElem?_getD, List.getD_eq_getElem?_getD, List.getElem?_append_right (by simp; omega), List.getElem?_append_right (by omega)]
      simp [e1]; omega
  · intro i hi
    simp only [List.length_append, List.length_cons, List.length_nil] at hi
    by_cases hia : i < acc.length
    · obtain ⟨o', c', a, b, d⟩ := h.tabs i hia
      refine ⟨o', c', ?_⟩
      rw [List.getD_eq_getElem?_getD, List.getElem?_append_left (by omega), List.getElem?_append_left (by omega), ← List.getD_eq_getElem?_getD]
      exact ⟨a, b.block hb, d⟩
    · obtain rfl : i = acc.length := by omega
      refine ⟨o, c, ?_⟩
      rw [List.getD_eq_getElem?_getD, List.getElem?_append_right (by omega), List.getElem?_append_right (by omega), e2]
      simp only [Nat.sub_self, List.getElem?_cons_zero, Option.getD_some]
      exact ⟨trivial, ht, hl⟩

theorem set_three {w : World} {b : Nat} {x y z : Value} {t : TypeId} (h : w.heap[b]? = some (.cells #[x, y, z] t (0, 0))) (x' y' z' : Value) : ∀ W, W = ((w.setCell ⟨b, 0, none⟩ x').setCell ⟨b, 1, none⟩ y').setCell ⟨b, 2, none⟩ z' →
    W.heap[b]? = some (.cells #[x', y', z'] t (0, 0)) ∧ (∀ k, k ≠ b → W.heap[k]? = w.heap[k]?) ∧ W.heap.size = w.heap.size ∧ W.os = w.os ∧ W.tape = w.tape ∧ W.output = w.output := by
  rintro W rfl
  refine ⟨?_, ?_, by simp, rfl, rfl, rfl⟩
  · have a1 := setCell_block (w := w) (a := ⟨b, 0, none⟩) (u := x') h rfl
    have a2 := setCell_block (w := w.setCell ⟨b, 0, none⟩ x') (a := ⟨b, 1, none⟩) (u := y') a1 rfl
    have a3 := setCell_block (w := (w.setCell ⟨b, 0, none⟩ x').setCell ⟨b, 1, none⟩ y') (a := ⟨b, 2, none⟩) (u := z') a2 rfl
    simpa using a3
  · intro k hk
    rw [Below.heap_setCell _ _ _ _ hk, Below.heap_setCell _ _ _ _ hk, Below.heap_setCell _ _ _ _ hk]

/-! Plain words on the two calls. -/
theorem wkPre_first {m : Nat} {t : List Bool} {acc : List Key} {N : List Nd} {lg : Bool} (h15 : m ≤ 15) (hl : t.length = 2 ^ (m + 1)) (hle : acc.length ≤ 2000) (hc : lg = false → Closed acc) (hn : lg = false → N = acc.map (ndOf acc)) : WkPre m (t.take (2 ^ m)) acc N lg :=
  ⟨(half_len hl).1, by omega, hle, hc, hn⟩

theorem wkRes_known {m : Nat} {t : List Bool} {acc acc1 : List Key} {N1 : List Nd} {lg lg1 : Bool} {r1 : Int} (h : WkRes m t acc lg acc1 N1 lg1 r1) (hl : lg1 = false) : lg = false ∧ (dfs m t acc).length ≤ 2000 ∧ acc1 = dfs m t acc ∧ r1 = rf (dfs m t acc) m t ∧ N1 = (dfs m t acc).map (ndOf (dfs m t acc)) := by
  have h0 : lg = false := by
    cases hc : lg with
    | false => rfl
    | true => rw [h.1 hc] at hl; simp at hl
  have hle : (dfs m t acc).length ≤ 2000 := by
    rcases Nat.lt_or_ge 2000 (dfs m t acc).length with h1 | h1
    · rw [(h.2 h0).2 h1] at hl; simp at hl
    · exact h1
  obtain ⟨_, a, b, c⟩ := (h.2 h0).1 hle
  exact ⟨h0, hle, a, b, c⟩

theorem wkPre_second {m : Nat} {t : List Bool} {acc acc1 : List Key} {N1 : List Nd} {lg lg1 : Bool} {r1 : Int} (h15 : m ≤ 15) (hl : t.length = 2 ^ (m + 1)) (hc : lg = false → Closed acc) (h : WkRes m (t.take (2 ^ m)) acc lg acc1 N1 lg1 r1) (hle : acc1.length ≤ 2000) : WkPre m (t.drop (2 ^ m)) acc1 N1 lg1 := by
  refine ⟨(half_len hl).2, by omega, hle, fun e => ?_, fun e => ?_⟩
  · obtain ⟨h0, _, rfl, _⟩ := wkRes_known h e
    exact Closed.dfs _ _ _ (hc h0)
  · obtain ⟨h0, _, rfl, _, e5⟩ := wkRes_known h e
    exact e5

theorem wkRes_large {m : Nat} {t : List Bool} {acc acc1 acc2 : List Key} {N1 N2 : List Nd} {lg lg1 lg2 : Bool} {r1 r2 : Int} (hd : t.take (2 ^ m) ≠ t.drop (2 ^ m)) (hm : (m + 1, t) ∉ acc) (h1 : WkRes m (t.take (2 ^ m)) acc lg acc1 N1 lg1 r1) (h2 : WkRes m (t.drop (2 ^ m)) acc1 lg1 acc2 N2 lg2 r2)
    (hf : lg2 = true ∨ acc2.length = 2000) (X : List Key) (Y : List Nd) (r : Int) : WkRes (m + 1) t acc lg X Y true r := by
  refine ⟨fun _ => rfl, fun h0 => ⟨fun hle => ?_, fun _ => rfl⟩⟩
  exfalso
  rw [walk_miss hd hm, List.length_append] at hle
  simp only [List.length_cons, List.length_nil] at hle
  obtain ⟨l2, e2⟩ := dfs_app m (t.drop (2 ^ m)) (dfs m (t.take (2 ^ m)) acc)
  have hle1 : (dfs m (t.take (2 ^ m)) acc).length ≤ 2000 := by rw [e2, List.length_append] at hle; omega
  obtain ⟨g1, rfl, _⟩ := (h1.2 h0).1 hle1
  obtain ⟨g2, rfl, _⟩ := (h2.2 g1).1 (by omega)
  rcases hf with e | e
  · rw [g2] at e; simp at e
  · omega

theorem wkRes_push {m : Nat} {t : List Bool} {acc acc1 acc2 : List Key} {N1 N2 : List Nd} {lg lg1 lg2 : Bool} {r1 r2 : Int} (hc : lg = false → Closed acc) (hd : t.take (2 ^ m) ≠ t.drop (2 ^ m)) (hm : (m + 1, t) ∉ acc) (h1 : WkRes m (t.take (2 ^ m)) acc lg acc1 N1 lg1 r1) (h2 : WkRes m (t.drop (2 ^ m)) acc1 lg1 acc2 N2 lg2 r2)
    (hf : lg2 = false) (hl : acc2.length < 2000) : WkRes (m + 1) t acc lg (acc2 ++ [(m + 1, t)]) (N2 ++ [(15 - (m : Int), r1, r2)]) lg2 (acc2.length : Int) := by
  obtain ⟨g1, l2, rfl, q2, n2⟩ := wkRes_known h2 hf
  obtain ⟨g0, l1, rfl, q1, n1⟩ := wkRes_known h1 g1
  refine ⟨fun e => by rw [g0] at e; simp at e, fun _ => ⟨fun _ => ⟨hf, (walk_miss hd hm).symm, (miss_root hd hm).symm, ?_⟩, fun h => ?_⟩⟩
  · rw [miss_nodes hd (hc g0) hm, n2, q1, q2]
    congr 2
    show (_, _) = (_, _)
    congr 1
    omega
  · exfalso
    rw [walk_miss hd hm, List.length_append] at h
    simp only [List.length_cons, List.length_nil] at h
    omega

end Go.Proofs.Ythhogbligfmpdaa
