/- A diagram that the reference makes of a table, in memory. -/
import Derived.Test.YthhogbligfmpdaaWp
import Derived.Test.YthhogbligfmpdaaPa
import Derived.Deep.CutBlock
import Derived.IntWalk
set_option linter.unusedVariables false
set_option linter.unusedSimpArgs false
namespace Go.Proofs.Ythhogbligfmpdaa
open Go.RowKit Bd

theorem uniform_len (t : List Bool) (l b o cap : Nat) (w : World) (h : TAt w t b o) (hl : t.length = l) (h1 : 1 ≤ l) (h2 : l ≤ 65536) :
    Calls Try.prog 82 #[.slice (some ⟨b, o, none⟩) l cap] w fun e w' => e = .returned (.bool (unif t)) ∧ ∃ q, w' = w.drewN q := by
  subst hl; exact uniform_any t b o cap w h h1 h2
theorem alike_len (s t : List Bool) (l l' b o c b' o' c' : Nat) (w : World) (h : TAt w s b o) (h' : TAt w t b' o') (hs : s.length = l) (ht : t.length = l') (hl : l = l') (h2 : l ≤ 65536) :
    Calls Try.prog 83 #[.slice (some ⟨b, o, none⟩) l c, .slice (some ⟨b', o', none⟩) l' c'] w fun e w' => e = .returned (.bool (s == t)) ∧ ∃ q, w' = w.drewN q := by
  subst hs; subst ht; exact alike_any s t b o c b' o' c' w h h' hl h2

/-- What a step over two rows may turn. -/
structure FS2 (w : World) (v1 v2 : Value) (w' : World) (v1' v2' : Value) : Prop where
  os : w'.os = w.os
  tape : w'.tape = w.tape
  output : w'.output = w.output
  size : w.heap.size ≤ w'.heap.size
  keep : ∀ k, k < w.heap.size → v1.ownBlock ≠ some k → v2.ownBlock ≠ some k → w'.heap[k]? = w.heap[k]?
  loc1 : ∀ g, v1'.ownBlock = some g → v1.ownBlock = some g ∨ w.heap.size ≤ g
  loc2 : ∀ g, v2'.ownBlock = some g → v2.ownBlock = some g ∨ w.heap.size ≤ g

theorem FS2.refl (w : World) (v1 v2 : Value) : FS2 w v1 v2 w v1 v2 := ⟨rfl, rfl, rfl, Nat.le_refl _, fun _ _ _ _ => rfl, fun _ h => Or.inl h, fun _ h => Or.inl h⟩
theorem FS2.trans {w w1 w2 : World} {v1 v2 u1 u2 x1 x2 : Value} (h : FS2 w v1 v2 w1 u1 u2) (k : FS2 w1 u1 u2 w2 x1 x2) : FS2 w v1 v2 w2 x1 x2 := by
  refine ⟨k.os.trans h.os, k.tape.trans h.tape, k.output.trans h.output, Nat.le_trans h.size k.size, ?_, ?_, ?_⟩
  · intro j hj h1 h2
    rw [k.keep j (Nat.lt_of_lt_of_le hj h.size) ?_ ?_, h.keep j hj h1 h2]
    · intro e
      rcases h.loc1 j e with e' | e'
      · exact h1 e'
      · omega
    · intro e
      rcases h.loc2 j e with e' | e'
      · exact h2 e'
      · omega
  · intro g hg
    rcases k.loc1 g hg with e | e
    · exact h.loc1 g e
    · exact Or.inr (Nat.le_trans h.size e)
  · intro g hg
    rcases k.loc2 g hg with e | e
    · exact h.loc2 g e
    · exact Or.inr (Nat.le_trans h.size e)
/-- All that was there is as it was. -/
theorem FS2.below {w w' : World} {v1 v2 : Value} (h : Below w.heap.size w w') : FS2 w v1 v2 w' v1 v2 := ⟨h.os, h.tape, h.output, h.size, fun k hk _ _ => h.block k hk, fun _ h => Or.inl h, fun _ h => Or.inl h⟩

/-- Keys whose tables lie in block tb; a row of nodes with their variables; a row of the tables' slices. -/
structure MD (w : World) (tb : Nat) (v1 v2 : Value) (acc : List Key) (N : List Nd) (S : List Value) : Prop where
  len : N.length = acc.length
  slen : S.length = acc.length
  var : ∀ i, i < acc.length → (nd N i).1 = 16 - ((acc.getD i (0, [])).1 : Int)
  row1 : w.ownsRow 0 77 3 v1 N.length (nsC N)
  row2 : w.ownsRow 0 33 1 v2 acc.length S
  tabs : ∀ i, i < acc.length → ∃ o c, S[i]? = some (.slice (some ⟨tb, o, none⟩) (acc.getD i (0, [])).2.length c) ∧ TAt w (acc.getD i (0, [])).2 tb o ∧ (acc.getD i (0, [])).2.length = 2 ^ (acc.getD i (0, [])).1
  far1 : v1.ownBlock ≠ some tb
  far2 : v2.ownBlock ≠ some tb
  blk : tb < w.heap.size

theorem MD.apart {w : World} {tb : Nat} {v1 v2 : Value} {acc : List Key} {N : List Nd} {S : List Value} (h : MD w tb v1 v2 acc N S) {g : Nat} (h1 : v1.ownBlock = some g) : v2.ownBlock ≠ some g := by
  intro h2
  rcases h.row1.2 with ⟨e, _⟩ | ⟨g1, c1, cur1, e1, _, b1, _⟩
  · rw [e] at h1; simp [Value.ownBlock] at h1
  · rcases h.row2.2 with ⟨e, _⟩ | ⟨g2, c2, cur2, e2, _, b2, _⟩
    · rw [e] at h2; simp [Value.ownBlock] at h2
    · rw [e1] at h1
      rw [e2] at h2
      simp only [Value.ownBlock, Option.some.injEq] at h1 h2
      subst h1
      subst h2
      rw [b1] at b2
      simp at b2

theorem MD.sl1 {w : World} {tb : Nat} {v1 v2 : Value} {acc : List Key} {N : List Nd} {S : List Value} (h : MD w tb v1 v2 acc N S) : ∃ a c, v1 = .slice a acc.length c := by
  rcases h.row1.2 with ⟨e, e2⟩ | ⟨g1, c1, cur1, e1, _⟩
  · exact ⟨none, 0, by rw [e, ← h.len, e2]⟩
  · exact ⟨_, c1, by rw [e1, h.len]⟩
theorem MD.sl2 {w : World} {tb : Nat} {v1 v2 : Value} {acc : List Key} {N : List Nd} {S : List Value} (h : MD w tb v1 v2 acc N S) : ∃ a c, v2 = .slice a acc.length c := by
  rcases h.row2.2 with ⟨e, e2⟩ | ⟨g1, c1, cur1, e1, _⟩
  · exact ⟨none, 0, by rw [e, e2]⟩
  · exact ⟨_, c1, e1⟩

theorem MD.of_blocks {w w' : World} {tb : Nat} {v1 v2 : Value} {acc : List Key} {N : List Nd} {S : List Value} (h : MD w tb v1 v2 acc N S) (hs : w.heap.size ≤ w'.heap.size) (hb : ∀ k, (k = tb ∨ v1.ownBlock = some k ∨ v2.ownBlock = some k) → w'.heap[k]? = w.heap[k]?) : MD w' tb v1 v2 acc N S := by
  refine ⟨h.len, h.slen, h.var, ownsRow_of_block h.row1 fun g hg => hb g (Or.inr (Or.inl hg)), ownsRow_of_block h.row2 fun g hg => hb g (Or.inr (Or.inr hg)), ?_, h.far1, h.far2, Nat.lt_of_lt_of_le h.blk hs⟩
  intro i hi
  obtain ⟨o, c, h1, h2, h3⟩ := h.tabs i hi
  exact ⟨o, c, h1, h2.block (hb tb (Or.inl rfl)), h3⟩
theorem MD.below {w w' : World} {tb : Nat} {v1 v2 : Value} {acc : List Key} {N : List Nd} {S : List Value} (h : MD w tb v1 v2 acc N S) (hb : Below w.heap.size w w') : MD w' tb v1 v2 acc N S :=
  h.of_blocks hb.size fun k hk => hb.block k (by
    rcases hk with rfl | hk | hk
    · exact h.blk
    · exact (h.row1.lt k hk).2
    · exact (h.row2.lt k hk).2)

/-- Entry i of both rows. -/
theorem MD.at {w : World} {tb : Nat} {v1 v2 : Value} {acc : List Key} {N : List Nd} {S : List Value} (h : MD w tb v1 v2 acc N S) {i : Nat} (hi : i < acc.length) :
    ∃ g1 c1 g2 c2 o c, v1 = .slice (some ⟨g1, 0, none⟩) acc.length c1 ∧ v2 = .slice (some ⟨g2, 0, none⟩) acc.length c2 ∧ w.cell? ⟨g1, i * 3, none⟩ = some (.int .i64 (16 - ((acc.getD i (0, [])).1 : Int))) ∧
      w.cell? ⟨g2, i, none⟩ = some (.slice (some ⟨tb, o, none⟩) (acc.getD i (0, [])).2.length c) ∧ TAt w (acc.getD i (0, [])).2 tb o ∧ (acc.getD i (0, [])).2.length = 2 ^ (acc.getD i (0, [])).1 := by
  obtain ⟨o, c, t1, t2, t3⟩ := h.tabs i hi
  have r1 := h.row1
  have r2 := h.row2
  rcases h.row1.2 with ⟨_, e2⟩ | ⟨g1, c1, cur1, e1, _⟩
  · have := h.len; omega
  · rcases h.row2.2 with ⟨_, e2⟩ | ⟨g2, c2, cur2, e2, _⟩
    · omega
    · rw [e1] at r1
      rw [e2] at r2
      have hn := nsC_at N i (by rw [h.len]; exact hi)
      refine ⟨g1, c1, g2, c2, o, c, by rw [e1, h.len], e2, ?_, ?_, t2, t3⟩
      · rw [r1.cellAt _ (by have := h.len; omega), hn.1, h.var i hi]
      · rw [r2.cellAt _ (by omega)]; exact t1

/-- What the walk over a table comes to, in plain words. -/
def WkRes (n : Nat) (t : List Bool) (acc : List Key) (lg : Bool) (acc' : List Key) (N' : List Nd) (lg' : Bool) (r : Int) : Prop :=
  (lg = true → lg' = true) ∧ (lg = false → ((dfs n t acc).length ≤ 2000 → lg' = false ∧ acc' = dfs n t acc ∧ r = rf (dfs n t acc) n t ∧ N' = (dfs n t acc).map (ndOf (dfs n t acc))) ∧ (2000 < (dfs n t acc).length → lg' = true))

def WkPost (w : World) (tb n : Nat) (t : List Bool) (v1 v2 : Value) (acc : List Key) (lg : Bool) (e : Ending) (w' : World) : Prop :=
  ∃ v1' v2' acc' N' S' lg' r, e = .returned (.tuple #[.agg #[v1', v2', .bool lg'], .int .i64 r]) ∧ MD w' tb v1' v2' acc' N' S' ∧ acc'.length ≤ 2000 ∧ FS2 w v1 v2 w' v1' v2' ∧ WkRes n t acc lg acc' N' lg' r

/-- What is given. -/
structure WkPre (n : Nat) (t : List Bool) (acc : List Key) (N : List Nd) (lg : Bool) : Prop where
  tl : t.length = 2 ^ n
  n16 : n ≤ 16
  le : acc.length ≤ 2000
  cl : lg = false → Closed acc
  nd : lg = false → N = acc.map (ndOf acc)

end Go.Proofs.Ythhogbligfmpdaa

/- The reference's walk: the box with the diagram in the making. -/
namespace Go.Proofs.Ythhogbligfmpdaa
open Go.RowKit Bd

theorem row_typ {w : World} {base e size n : Nat} {v : Value} {xs : List Value} (h : w.ownsRow base e size v n xs) {g : Nat} (hg : v.ownBlock = some g) : ∃ cur, w.heap[g]? = some (.cells cur e (0, 0)) := by
  rcases h.2 with ⟨e1, _⟩ | ⟨g1, c1, cur1, e1, _, b1, _⟩
  · rw [e1] at hg; simp [Value.ownBlock] at hg
  · rw [e1] at hg
    simp only [Value.ownBlock, Option.some.injEq] at hg
    subst hg
    exact ⟨_, b1⟩

structure BX (w wn : World) (tb : Nat) (u1 u2 v1 v2 : Value) (lg : Bool) (n1 n2 : Nat) (xs1 xs2 : List Value) : Prop where
  box : wn.heap[w.heap.size]? = some (.cells #[v1, v2, .bool lg] 71 (0, 0))
  res : wn.heap[w.heap.size + 1]? = some (.cells #[.slice none 0 0, .slice none 0 0, .bool false] 71 (0, 0))
  row1 : wn.ownsRow 0 77 3 v1 n1 xs1
  row2 : wn.ownsRow 0 33 1 v2 n2 xs2
  fs : FS2 w u1 u2 wn v1 v2
  tbk : wn.heap[tb]? = w.heap[tb]?
  tlt : tb < w.heap.size
  far1 : v1.ownBlock ≠ some tb
  far2 : v2.ownBlock ≠ some tb

namespace BX
variable {w wn : World} {tb : Nat} {u1 u2 v1 v2 : Value} {lg : Bool} {n1 n2 : Nat} {xs1 xs2 : List Value}

theorem ne1 (h : BX w wn tb u1 u2 v1 v2 lg n1 n2 xs1 xs2) : v1.ownBlock ≠ some w.heap.size ∧ v1.ownBlock ≠ some (w.heap.size + 1) := by
  constructor
  · intro e; obtain ⟨cur, b⟩ := row_typ h.row1 e; rw [h.box] at b; simp at b
  · intro e; obtain ⟨cur, b⟩ := row_typ h.row1 e; rw [h.res] at b; simp at b
theorem ne2 (h : BX w wn tb u1 u2 v1 v2 lg n1 n2 xs1 xs2) : v2.ownBlock ≠ some w.heap.size ∧ v2.ownBlock ≠ some (w.heap.size + 1) := by
  constructor
  · intro e; obtain ⟨cur, b⟩ := row_typ h.row2 e; rw [h.box] at b; simp at b
  · intro e; obtain ⟨cur, b⟩ := row_typ h.row2 e; rw [h.res] at b; simp at b
theorem ne12 (h : BX w wn tb u1 u2 v1 v2 lg n1 n2 xs1 xs2) {g : Nat} (e : v1.ownBlock = some g) : v2.ownBlock ≠ some g := by
  intro e2
  obtain ⟨cur, b⟩ := row_typ h.row1 e
  obtain ⟨cur2, b2⟩ := row_typ h.row2 e2
  rw [b] at b2; simp at b2

theorem of_kept (h : BX w wn tb u1 u2 v1 v2 lg n1 n2 xs1 xs2) {w' : World} (hh : w'.heap = wn.heap) (ho : w'.os = wn.os) (ht : w'.tape = wn.tape) (hu : w'.output = wn.output) : BX w w' tb u1 u2 v1 v2 lg n1 n2 xs1 xs2 := by
  have hk : ∀ k : Nat, w'.heap[k]? = wn.heap[k]? := fun k => by rw [hh]
  exact ⟨(hk _).trans h.box, (hk _).trans h.res, ownsRow_of_block h.row1 fun g _ => hk g, ownsRow_of_block h.row2 fun g _ => hk g, ⟨ho.trans h.fs.os, ht.trans h.fs.tape, hu.trans h.fs.output, by rw [hh]; exact h.fs.size, fun k a b c => (hk k).trans (h.fs.keep k a b c), h.fs.loc1, h.fs.loc2⟩, (hk _).trans h.tbk, h.tlt, h.far1, h.far2⟩
theorem drew (h : BX w wn tb u1 u2 v1 v2 lg n1 n2 xs1 xs2) : BX w wn.drew tb u1 u2 v1 v2 lg n1 n2 xs1 xs2 := h.of_kept rfl rfl rfl rfl

/-- A call has turned the rows; the box holds what it gave. -/
theorem call (h : BX w wn tb u1 u2 v1 v2 lg n1 n2 xs1 xs2) {w3 w4 : World} {v1' v2' : Value} {acc' : List Key} {N' : List Nd} {S' : List Value} {lg' : Bool} (hm : MD w3 tb v1' v2' acc' N' S') (hf : FS2 wn v1 v2 w3 v1' v2')
    (hb : w4.heap[w.heap.size]? = some (.cells #[v1', v2', .bool lg'] 71 (0, 0))) (ho : ∀ k, k ≠ w.heap.size → w4.heap[k]? = w3.heap[k]?) (hz : w4.heap.size = w3.heap.size) (h1 : w4.os = w3.os) (h2 : w4.tape = w3.tape) (h3 : w4.output = w3.output) :
    BX w w4 tb u1 u2 v1' v2' lg' N'.length acc'.length (nsC N') S' := by
  have hl := lt_of_some h.res
  have n1 := h.ne1
  have n2 := h.ne2
  have hl1 : v1'.ownBlock ≠ some w.heap.size := fun e => by
    rcases hf.loc1 _ e with e' | e'
    · exact n1.1 e'
    · omega
  have hl2 : v2'.ownBlock ≠ some w.heap.size := fun e => by
    rcases hf.loc2 _ e with e' | e'
    · exact n2.1 e'
    · omega
  have f2 := h.fs.trans hf
  have tl := h.tlt
  refine ⟨hb, ?_, ?_, ?_, ?_, ?_, h.tlt, hm.far1, hm.far2⟩
  · rw [ho _ (by omega), hf.keep _ (by omega) n1.2 n2.2]; exact h.res
  · exact ownsRow_of_block hm.row1 fun g hg => ho g fun e => hl1 (by rw [hg, e])
  · exact ownsRow_of_block hm.row2 fun g hg => ho g fun e => hl2 (by rw [hg, e])
  · exact ⟨h1.trans f2.os, h2.trans f2.tape, h3.trans f2.output, by rw [hz]; exact f2.size, fun k a b c => (ho k (by omega)).trans (f2.keep k a b c), f2.loc1, f2.loc2⟩
  · rw [ho _ (by omega), hf.keep _ (by omega) h.far1 h.far2]; exact h.tbk

theorem push1 (h : BX w wn tb u1 u2 v1 v2 lg n1 n2 xs1 xs2) {o : Obj} {w5 : World} {g n1' c : Nat} {xs1' : List Value} (hg : (wn.alloc o).grownBy w5 v1.ownBlock) (hown : w5.ownsRow 0 77 3 (.slice (some ⟨g, 0, none⟩) n1' c) n1' xs1') (hat : v1.ownBlock = some g ∨ g = wn.heap.size + 1) :
    BX w (w5.setCell ⟨w.heap.size, 0, none⟩ (.slice (some ⟨g, 0, none⟩) n1' c)) tb u1 u2 (.slice (some ⟨g, 0, none⟩) n1' c) v2 lg n1' n2 xs1' xs2 := by
  have keep : ∀ j, j < wn.heap.size → v1.ownBlock ≠ some j → w5.heap[j]? = wn.heap[j]? := by
    intro j hj hne
    rw [hg.block j (by simp; omega) (fun e => hne e.symm)]
    exact Below.heap_alloc wn o j hj
  have hsz := hg.size
  simp at hsz
  have hl := lt_of_some h.res
  have n1 := h.ne1
  have n2 := h.ne2
  have tl := h.tlt
  have hz := h.fs.size
  have hgb : g ≠ w.heap.size := by
    rcases hat with e | e
    · intro e2; subst e2; exact n1.1 e
    · omega
  have oth : ∀ k, k ≠ w.heap.size → (w5.setCell ⟨w.heap.size, 0, none⟩ (.slice (some ⟨g, 0, none⟩) n1' c)).heap[k]? = w5.heap[k]? := fun k hk => Below.heap_setCell _ _ _ _ hk
  refine ⟨?_, ?_, ?_, ?_, ⟨hg.os.trans h.fs.os, hg.tape.trans h.fs.tape, hg.output.trans h.fs.output, ?_, ?_, ?_, h.fs.loc2⟩, ?_, h.tlt, ?_, h.far2⟩
  · have := setCell_block (w := w5) (a := ⟨w.heap.size, 0, none⟩) (u := .slice (some ⟨g, 0, none⟩) n1' c) ((keep _ (by omega) n1.1).trans h.box) rfl
    simpa using this
  · rw [oth _ (by omega), keep _ hl n1.2]; exact h.res
  · exact ownsRow_of_block hown fun k hk => by
      simp only [Value.ownBlock, Option.some.injEq] at hk
      subst hk; exact oth _ hgb
  · refine ownsRow_of_block h.row2 fun k hk => ?_
    rw [oth k (fun e => n2.1 (by rw [hk, e])), keep k (h.row2.lt k hk).2 (fun e => h.ne12 e hk)]
  · show w.heap.size ≤ (w5.setCell _ _).heap.size
    simp; omega
  · intro k hk a b
    rw [oth k (by omega), keep k (by omega) ?_]
    · exact h.fs.keep k hk a b
    · intro e
      rcases h.fs.loc1 k e with e' | e'
      · exact a e'
      · omega
  · intro k hk
    simp only [Value.ownBlock, Option.some.injEq] at hk
    subst hk
    rcases hat with e | e
    · exact h.fs.loc1 _ e
    · right; omega
  · rw [oth _ (by omega), keep _ (by omega) h.far1]; exact h.tbk
  · intro hk
    simp only [Value.ownBlock, Option.some.injEq] at hk
    subst hk
    rcases hat with e | e
    · exact h.far1 e
    · omega

theorem push2 (h : BX w wn tb u1 u2 v1 v2 lg n1 n2 xs1 xs2) {o : Obj} {w5 : World} {g n1' c : Nat} {xs1' : List Value} (hg : (wn.alloc o).grownBy w5 v2.ownBlock) (hown : w5.ownsRow 0 33 1 (.slice (some ⟨g, 0, none⟩) n1' c) n1' xs1') (hat : v2.ownBlock = some g ∨ g = wn.heap.size + 1) :
    BX w (w5.setCell ⟨w.heap.size, 1, none⟩ (.slice (some ⟨g, 0, none⟩) n1' c)) tb u1 u2 v1 (.slice (some ⟨g, 0, none⟩) n1' c) lg n1 n1' xs1 xs1' := by
  have keep : ∀ j, j < wn.heap.size → v2.ownBlock ≠ some j → w5.heap[j]? = wn.heap[j]? := by
    intro j hj hne
    rw [hg.block j (by simp; omega) (fun e => hne e.symm)]
    exact Below.heap_alloc wn o j hj
  have hsz := hg.size
  simp at hsz
  have hl := lt_of_some h.res
  have n1 := h.ne1
  have n2 := h.ne2
  have tl := h.tlt
  have hz := h.fs.size
  have hgb : g ≠ w.heap.size := by
    rcases hat with e | e
    · intro e2; subst e2; exact n2.1 e
    · omega
  have oth : ∀ k, k ≠ w.heap.size → (w5.setCell ⟨w.heap.size, 1, none⟩ (.slice (some ⟨g, 0, none⟩) n1' c)).heap[k]? = w5.heap[k]? := fun k hk => Below.heap_setCell _ _ _ _ hk
  refine ⟨?_, ?_, ?_, ?_, ⟨hg.os.trans h.fs.os, hg.tape.trans h.fs.tape, hg.output.trans h.fs.output, ?_, ?_, h.fs.loc1, ?_⟩, ?_, h.tlt, h.far1, ?_⟩
  · have := setCell_block (w := w5) (a := ⟨w.heap.size, 1, none⟩) (u := .slice (some ⟨g, 0, none⟩) n1' c) ((keep _ (by omega) n2.1).trans h.box) rfl
    simpa using this
  · rw [oth _ (by omega), keep _ hl n2.2]; exact h.res
  · refine ownsRow_of_block h.row1 fun k hk => ?_
    rw [oth k (fun e => n1.1 (by rw [hk, e])), keep k (h.row1.lt k hk).2 (fun e => h.ne12 hk e)]
  · exact ownsRow_of_block hown fun k hk => by
      simp only [Value.ownBlock, Option.some.injEq] at hk
      subst hk; exact oth _ hgb
  · show w.heap.size ≤ (w5.setCell _ _).heap.size
    simp; omega
  · intro k hk a b
    rw [oth k (by omega), keep k (by omega) ?_]
    · exact h.fs.keep k hk a b
    · intro e
      rcases h.fs.loc2 k e with e' | e'
      · exact b e'
      · omega
  · intro k hk
    simp only [Value.ownBlock, Option.some.injEq] at hk
    subst hk
    rcases hat with e | e
    · exact h.fs.loc2 _ e
    · right; omega
  · rw [oth _ (by omega), keep _ (by omega) h.far2]; exact h.tbk
  · intro hk
    simp only [Value.ownBlock, Option.some.injEq] at hk
    subst hk
    rcases hat with e | e
    · exact h.far2 e
    · omega

/-- What lies in the box is what is given back. -/
theorem md (h : BX w wn tb u1 u2 v1 v2 lg n1 n2 xs1 xs2) {acc : List Key} {N : List Nd} {S : List Value} (hn : N.length = acc.length) (hs : S.length = acc.length) (hv : ∀ i, i < acc.length → (nd N i).1 = 16 - ((acc.getD i (0, [])).1 : Int))
    (ht : ∀ i, i < acc.length → ∃ o c, S[i]? = some (.slice (some ⟨tb, o, none⟩) (acc.getD i (0, [])).2.length c) ∧ TAt w (acc.getD i (0, [])).2 tb o ∧ (acc.getD i (0, [])).2.length = 2 ^ (acc.getD i (0, [])).1)
    (e1 : n1 = N.length) (e2 : n2 = acc.length) (e3 : xs1 = nsC N) (e4 : xs2 = S) : MD wn tb v1 v2 acc N S := by
  subst e1; subst e2; subst e3; subst e4
  refine ⟨hn, hs, hv, h.row1, h.row2, ?_, h.far1, h.far2, Nat.lt_of_lt_of_le h.tlt h.fs.size⟩
  intro i hi
  obtain ⟨o, c, h1, h2, h3⟩ := ht i hi
  exact ⟨o, c, h1, h2.block h.tbk, h3⟩

/-- The result's box is written. -/
theorem ret (h : BX w wn tb u1 u2 v1 v2 lg n1 n2 xs1 xs2) {W : World} (ho : ∀ k, k ≠ w.heap.size + 1 → W.heap[k]? = wn.heap[k]?) (hz : W.heap.size = wn.heap.size) (h1 : W.os = wn.os) (h2 : W.tape = wn.tape) (h3 : W.output = wn.output) :
    FS2 w u1 u2 W v1 v2 ∧ ∀ acc N S, MD wn tb v1 v2 acc N S → MD W tb v1 v2 acc N S := by
  refine ⟨⟨h1.trans h.fs.os, h2.trans h.fs.tape, h3.trans h.fs.output, by rw [hz]; exact h.fs.size, fun k a b c => (ho k (by omega)).trans (h.fs.keep k a b c), h.fs.loc1, h.fs.loc2⟩, ?_⟩
  intro acc N S hm
  refine hm.of_blocks (by omega) fun k hk => ho k fun e => ?_
  subst e
  rcases hk with e | e | e
  · have := h.tlt; omega
  · exact h.ne1.2 e
  · exact h.ne2.2 e
theorem fin (h : BX w wn tb u1 u2 v1 v2 lg n1 n2 xs1 xs2) {W : World} (ho : ∀ k, k ≠ w.heap.size → k ≠ w.heap.size + 1 → W.heap[k]? = wn.heap[k]?) (hz : W.heap.size = wn.heap.size) (h1 : W.os = wn.os) (h2 : W.tape = wn.tape) (h3 : W.output = wn.output) :
    FS2 w u1 u2 W v1 v2 ∧ ∀ acc N S, MD wn tb v1 v2 acc N S → MD W tb v1 v2 acc N S := by
  refine ⟨⟨h1.trans h.fs.os, h2.trans h.fs.tape, h3.trans h.fs.output, by rw [hz]; exact h.fs.size, fun k a b c => (ho k (by omega) (by omega)).trans (h.fs.keep k a b c), h.fs.loc1, h.fs.loc2⟩, ?_⟩
  intro acc N S hm
  refine hm.of_blocks (by omega) fun k hk => ?_
  have tl := h.tlt
  rcases hk with e | e | e
  · exact ho k (by omega) (by omega)
  · exact ho k (fun e2 => h.ne1.1 (by rw [e, e2])) (fun e2 => h.ne1.2 (by rw [e, e2]))
  · exact ho k (fun e2 => h.ne2.1 (by rw [e, e2])) (fun e2 => h.ne2.2 (by rw [e, e2]))

theorem box_grown (h : BX w wn tb u1 u2 v1 v2 lg n1 n2 xs1 xs2) {o : Obj} {w5 : World} {row : Option Nat} (hg : (wn.alloc o).grownBy w5 row) (hr : row ≠ some w.heap.size) : w5.heap[w.heap.size]? = some (.cells #[v1, v2, .bool lg] 71 (0, 0)) := by
  have hl := lt_of_some h.box
  rw [hg.block _ (by simp; omega) (fun e => hr e.symm)]
  exact (Below.heap_alloc wn o _ hl).trans h.box
end BX

/-- The lists behind a new entry. -/
theorem MD.lists {w w0 : World} {tb : Nat} {v1 v2 : Value} {acc : List Key} {N : List Nd} {S : List Value} (h : MD w tb v1 v2 acc N S) (hb : w0.heap[tb]? = w.heap[tb]?) {m : Nat} {t : List Bool} {o c : Nat} {r1 r2 : Int} (hl : t.length = 2 ^ (m + 1)) (ht : TAt w0 t tb o) :
    (N ++ [(15 - (m : Int), r1, r2)]).length = (acc ++ [(m + 1, t)]).length ∧ (S ++ [Value.slice (some ⟨tb, o, none⟩) t.length c]).length = (acc ++ [(m + 1, t)]).length ∧
    (∀ i, i < (acc ++ [(m + 1, t)]).length → (nd (N ++ [(15 - (m : Int), r1, r2)]) i).1 = 16 - (((acc ++ [(m + 1, t)]).getD i (0, [])).1 : Int)) ∧
    (∀ i, i < (acc ++ [(m + 1, t)]).length → ∃ o' c', (S ++ [Value.slice (some ⟨tb, o, none⟩) t.length c])[i]? = some (.slice (some ⟨tb, o', none⟩) ((acc ++ [(m + 1, t)]).getD i (0, [])).2.length c') ∧ TAt w0 ((acc ++ [(m + 1, t)]).getD i (0, [])).2 tb o' ∧ ((acc ++ [(m + 1, t)]).getD i (0, [])).2.length = 2 ^ ((acc ++ [(m + 1, t)]).getD i (0, [])).1) := by
  have e1 := h.len
  have e2 := h.slen
  refine ⟨by simp [e1], by simp [e2], ?_, ?_⟩
  · intro i hi
    simp only [List.length_append, List.length_cons, List.length_nil] at hi
    by_cases hia : i < acc.length
    · have := h.var i hia
      unfold nd at this ⊢
      rw [List.getD_eq_getElem?_getD, List.getD_eq_getElem?_getD, List.getElem?_append_left (by simp; omega), List.getElem?_append_left (by omega)]
      rw [List.getD_eq_getElem?_getD, List.getD_eq_getElem?_getD] at this
      exact this
    · obtain rfl : i = acc.length := by omega
      unfold nd
      rw [List.getD_eq_getElem?_getD, List.getD_eq_getElem?_getD, List.getElem?_append_right (by simp; omega), List.getElem?_append_right (by omega)]
      simp [e1]; omega
  · intro i hi
    simp only [List.length_append, List.length_cons, List.length_nil] at hi
    by_cases hia : i < acc.length
    · obtain ⟨o', c', a, b, d⟩ := h.tabs i hia
      refine ⟨o', c', ?_⟩
      rw [List.getD_eq_getElem?_getD, List.getElem?_append_left (by omega), List.getElem?_append_left (by omega), ← List.getD_eq_getElem?_getD]
      exact ⟨a, b.block hb, d⟩
    · obtain rfl : i = acc.length := by omega
      refine ⟨o, c, ?_⟩
      rw [List.getD_eq_getElem?_getD, List.getElem?_append_right (by omega), List.getElem?_append_right (by omega), e2]
      simp only [Nat.sub_self, List.getElem?_cons_zero, Option.getD_some]
      exact ⟨trivial, ht, hl⟩

theorem set_three {w : World} {b : Nat} {x y z : Value} {t : TypeId} (h : w.heap[b]? = some (.cells #[x, y, z] t (0, 0))) (x' y' z' : Value) : ∀ W, W = ((w.setCell ⟨b, 0, none⟩ x').setCell ⟨b, 1, none⟩ y').setCell ⟨b, 2, none⟩ z' →
    W.heap[b]? = some (.cells #[x', y', z'] t (0, 0)) ∧ (∀ k, k ≠ b → W.heap[k]? = w.heap[k]?) ∧ W.heap.size = w.heap.size ∧ W.os = w.os ∧ W.tape = w.tape ∧ W.output = w.output := by
  rintro W rfl
  refine ⟨?_, ?_, by simp, rfl, rfl, rfl⟩
  · have a1 := setCell_block (w := w) (a := ⟨b, 0, none⟩) (u := x') h rfl
    have a2 := setCell_block (w := w.setCell ⟨b, 0, none⟩ x') (a := ⟨b, 1, none⟩) (u := y') a1 rfl
    have a3 := setCell_block (w := (w.setCell ⟨b, 0, none⟩ x').setCell ⟨b, 1, none⟩ y') (a := ⟨b, 2, none⟩) (u := z') a2 rfl
    simpa using a3
  · intro k hk
    rw [Below.heap_setCell _ _ _ _ hk, Below.heap_setCell _ _ _ _ hk, Below.heap_setCell _ _ _ _ hk]

/-! Plain words on the two calls. -/
theorem wkPre_first {m : Nat} {t : List Bool} {acc : List Key} {N : List Nd} {lg : Bool} (h15 : m ≤ 15) (hl : t.length = 2 ^ (m + 1)) (hle : acc.length ≤ 2000) (hc : lg = false → Closed acc) (hn : lg = false → N = acc.map (ndOf acc)) : WkPre m (t.take (2 ^ m)) acc N lg :=
  ⟨(half_len hl).1, by omega, hle, hc, hn⟩

theorem wkRes_known {m : Nat} {t : List Bool} {acc acc1 : List Key} {N1 : List Nd} {lg lg1 : Bool} {r1 : Int} (h : WkRes m t acc lg acc1 N1 lg1 r1) (hl : lg1 = false) : lg = false ∧ (dfs m t acc).length ≤ 2000 ∧ acc1 = dfs m t acc ∧ r1 = rf (dfs m t acc) m t ∧ N1 = (dfs m t acc).map (ndOf (dfs m t acc)) := by
  have h0 : lg = false := by
    cases hc : lg with
    | false => rfl
    | true => rw [h.1 hc] at hl; simp at hl
  have hle : (dfs m t acc).length ≤ 2000 := by
    rcases Nat.lt_or_ge 2000 (dfs m t acc).length with h1 | h1
    · rw [(h.2 h0).2 h1] at hl; simp at hl
    · exact h1
  obtain ⟨_, a, b, c⟩ := (h.2 h0).1 hle
  exact ⟨h0, hle, a, b, c⟩

theorem wkPre_second {m : Nat} {t : List Bool} {acc acc1 : List Key} {N1 : List Nd} {lg lg1 : Bool} {r1 : Int} (h15 : m ≤ 15) (hl : t.length = 2 ^ (m + 1)) (hc : lg = false → Closed acc) (h : WkRes m (t.take (2 ^ m)) acc lg acc1 N1 lg1 r1) (hle : acc1.length ≤ 2000) : WkPre m (t.drop (2 ^ m)) acc1 N1 lg1 := by
  refine ⟨(half_len hl).2, by omega, hle, fun e => ?_, fun e => ?_⟩
  · obtain ⟨h0, _, rfl, _⟩ := wkRes_known h e
    exact Closed.dfs _ _ _ (hc h0)
  · obtain ⟨h0, _, rfl, _, e5⟩ := wkRes_known h e
    exact e5

theorem wkRes_large {m : Nat} {t : List Bool} {acc acc1 acc2 : List Key} {N1 N2 : List Nd} {lg lg1 lg2 : Bool} {r1 r2 : Int} (hd : t.take (2 ^ m) ≠ t.drop (2 ^ m)) (hm : (m + 1, t) ∉ acc) (h1 : WkRes m (t.take (2 ^ m)) acc lg acc1 N1 lg1 r1) (h2 : WkRes m (t.drop (2 ^ m)) acc1 lg1 acc2 N2 lg2 r2)
    (hf : lg2 = true ∨ acc2.length = 2000) (X : List Key) (Y : List Nd) (r : Int) : WkRes (m + 1) t acc lg X Y true r := by
  refine ⟨fun _ => rfl, fun h0 => ⟨fun hle => ?_, fun _ => rfl⟩⟩
  exfalso
  rw [walk_miss hd hm, List.length_append] at hle
  simp only [List.length_cons, List.length_nil] at hle
  obtain ⟨l2, e2⟩ := dfs_app m (t.drop (2 ^ m)) (dfs m (t.take (2 ^ m)) acc)
  have hle1 : (dfs m (t.take (2 ^ m)) acc).length ≤ 2000 := by rw [e2, List.length_append] at hle; omega
  obtain ⟨g1, rfl, _⟩ := (h1.2 h0).1 hle1
  obtain ⟨g2, rfl, _⟩ := (h2.2 g1).1 (by omega)
  rcases hf with e | e
  · rw [g2] at e; simp at e
  · omega

theorem wkRes_push {m : Nat} {t : List Bool} {acc acc1 acc2 : List Key} {N1 N2 : List Nd} {lg lg1 lg2 : Bool} {r1 r2 : Int} (hc : lg = false → Closed acc) (hd : t.take (2 ^ m) ≠ t.drop (2 ^ m)) (hm : (m + 1, t) ∉ acc) (h1 : WkRes m (t.take (2 ^ m)) acc lg acc1 N1 lg1 r1) (h2 : WkRes m (t.drop (2 ^ m)) acc1 lg1 acc2 N2 lg2 r2)
    (hf : lg2 = false) (hl : acc2.length < 2000) : WkRes (m + 1) t acc lg (acc2 ++ [(m + 1, t)]) (N2 ++ [(15 - (m : Int), r1, r2)]) lg2 (acc2.length : Int) := by
  obtain ⟨g1, l2, rfl, q2, n2⟩ := wkRes_known h2 hf
  obtain ⟨g0, l1, rfl, q1, n1⟩ := wkRes_known h1 g1
  refine ⟨fun e => by rw [g0] at e; simp at e, fun _ => ⟨fun _ => ⟨hf, (walk_miss hd hm).symm, (miss_root hd hm).symm, ?_⟩, fun h => ?_⟩⟩
  · rw [miss_nodes hd (hc g0) hm, n2, q1, q2]
    congr 2
    show (_, _) = (_, _)
    congr 1
    omega
  · exfalso
    rw [walk_miss hd hm, List.length_append] at h
    simp only [List.length_cons, List.length_nil] at h
    omega

end Go.Proofs.Ythhogbligfmpdaa

/- The reference's walk over a table. -/
namespace Go.Proofs.Ythhogbligfmpdaa
open Go.RowKit Bd

theorem three_cells {w : World} {b : Nat} {x y z : Value} {t : TypeId} (h : w.heap[b]? = some (.cells #[x, y, z] t (0, 0))) : w.frozen? ⟨b, 0, none⟩ = false ∧ w.frozen? ⟨b, 1, none⟩ = false ∧ w.frozen? ⟨b, 2, none⟩ = false := by simp [World.frozen?, h]

theorem below_three {w W : World} (h : Below w.heap.size w W) (x y z : Value) {k : Nat} (hk : w.heap.size ≤ k) : Below w.heap.size w (((W.setCell ⟨k, 0, none⟩ x).setCell ⟨k, 1, none⟩ y).setCell ⟨k, 2, none⟩ z) :=
  ((h.setCell (by exact hk) _).setCell (by exact hk) _).setCell (by exact hk) _

theorem wkRes_uni {n : Nat} {t : List Bool} {acc : List Key} {N : List Nd} {lg : Bool} (hp : WkPre n t acc N lg) (hu : unif t = true) : WkRes n t acc lg acc N lg (if t.getD 0 false then -2 else -1) := by
  have hd := dfs_unif hp.tl hu acc
  refine ⟨fun h => h, fun h => ⟨fun _ => ⟨h, hd.1.symm, ?_, ?_⟩, fun h2 => ?_⟩⟩
  · rw [hd.1]; exact hd.2.symm
  · rw [hd.1]; exact hp.nd h
  · rw [hd.1] at h2; have := hp.le; omega

set_option maxRecDepth 100000 in
set_option maxHeartbeats 1000000 in
theorem wk_uni {w : World} {tb o cp n : Nat} {t : List Bool} {v1 v2 : Value} {acc : List Key} {N : List Nd} {S : List Value} {lg : Bool} {v : Int} (h : MD w tb v1 v2 acc N S) (ht : TAt w t tb o) (hp : WkPre n t acc N lg) (hu : unif t = true) :
    Calls Try.prog 48 #[.agg #[v1, v2, .bool lg], .slice (some ⟨tb, o, none⟩) t.length cp, .int .i64 v] w (WkPost w tb n t v1 v2 acc lg) := by
  have h1 : 1 ≤ t.length := by rw [hp.tl]; exact Nat.one_le_two_pow
  have h2 : t.length ≤ 65536 := by rw [hp.tl]; exact Nat.le_trans (pow_mono hp.n16) (by decide)
  obtain ⟨a1, c1, hv1⟩ := h.sl1
  obtain ⟨a2, c2, hv2⟩ := h.sl2
  subst hv1
  subst hv2
  have H := Lib.hid h; clear h
  have RS := Lib.hid (wkRes_uni hp hu)
  have HU := Lib.hid hu; clear hu
  have LE := Lib.hid hp.le
  clear hp
  obtain ⟨x1, x2, x3, x4⟩ := two_new w (.cells #[.slice a1 acc.length c1, .slice a2 acc.length c2, .bool lg] 71) (.cells #[.slice none 0 0, .slice none 0 0, .bool false] 71) _ rfl
  have X1 := Lib.hid x1; clear x1
  have X2 := Lib.hid x2; clear x2
  have X3 := Lib.hid x3; clear x3
  have X4 := Lib.hid x4; clear x4
  have t0 := ht 0 (by omega)
  simp only [Nat.add_zero] at t0
  obtain ⟨b0, hb0⟩ : ∃ b0, t.getD 0 false = b0 := ⟨_, rfl⟩
  rw [hb0] at t0 RS
  have HB0 := Lib.hid hb0; clear hb0
  have T := Lib.hid ht; clear ht
  have i1 : (0 : Int) < (t.length : Int) := by omega
  go_enter Try.func48, Try.ntmps48
  go_wp2_with fail
  generalize (w.alloc (.cells #[.slice a1 acc.length c1, .slice a2 acc.length c2, .bool lg] 71)).alloc (.cells #[.slice none 0 0, .slice none 0 0, .bool false] 71) = w1 at *
  refine (uniform_len t t.length tb o cp w1 (T.out.block (X4.out.block tb H.out.blk)) rfl h1 h2).mono ?_
  rw [HU.out]
  rintro e w2 ⟨rfl, q, rfl⟩
  have z0 := cell_later X4.out t0
  obtain ⟨y0, y1, y2⟩ := cells3 X1.out
  obtain ⟨r0, r1, r2⟩ := cells3 X2.out
  obtain ⟨f0, f1, f2⟩ := three_cells X2.out
  clear t0
  cases b0
  · go_wp2_with fail
    have BF := below_three (W := w1.drewN q) ⟨X4.out.os, X4.out.tape, X4.out.output, X4.out.size, X4.out.block⟩ (.slice a1 acc.length c1) (.slice a2 acc.length c2) (.bool lg) (k := w.heap.size + 1) (by omega)
    exact bodyPost_ret (v := .tuple #[.agg #[.slice a1 acc.length c1, .slice a2 acc.length c2, .bool lg], .int .i64 (-1)]) (by simp [results, Try.results48, go_sem, r0, r1, r2]) rfl ⟨_, _, acc, N, S, lg, -1, rfl, H.out.below BF, LE.out, FS2.below BF, RS.out⟩
  · go_wp2_with fail
    have BF := below_three (W := w1.drewN q) ⟨X4.out.os, X4.out.tape, X4.out.output, X4.out.size, X4.out.block⟩ (.slice a1 acc.length c1) (.slice a2 acc.length c2) (.bool lg) (k := w.heap.size + 1) (by omega)
    exact bodyPost_ret (v := .tuple #[.agg #[.slice a1 acc.length c1, .slice a2 acc.length c2, .bool lg], .int .i64 (-2)]) (by simp [results, Try.results48, go_sem, r0, r1, r2]) rfl ⟨_, _, acc, N, S, lg, -2, rfl, H.out.below BF, LE.out, FS2.below BF, RS.out⟩

/-- Only draws. -/
def Qt (w wr : World) : Prop := ∃ q, wr = w.drewN q
theorem Qt.heap {w wr : World} (h : Qt w wr) : wr.heap = w.heap := by obtain ⟨q, rfl⟩ := h; rfl
theorem Qt.below {w wr : World} (h : Qt w wr) : Below w.heap.size w wr := by obtain ⟨q, rfl⟩ := h; exact ⟨rfl, rfl, rfl, Nat.le_refl _, fun _ _ => rfl⟩
theorem Qt.drewN {w wr : World} (h : Qt w wr) (k : Nat) : Qt w (wr.drewN k) := by obtain ⟨q, rfl⟩ := h; exact ⟨q + k, by rw [World.drewN_drewN]⟩
theorem Qt.drew {w wr : World} (h : Qt w wr) : Qt w wr.drew := by obtain ⟨q, rfl⟩ := h; exact ⟨q + 1, rfl⟩
theorem Qt.block {w wr : World} (h : Qt w wr) {b : Nat} : wr.heap[b]? = w.heap[b]? := by rw [h.heap]

/-- The loop that looks for a known table. -/
def L2R (acc : List Key) (k : Key) (w : World) (iv : Value) (wr : World) : Prop :=
  ∃ i : Nat, iv = .int .i64 i ∧ i ≤ acc.length ∧ (∀ j, j < i → acc.getD j (0, []) ≠ k) ∧ Qt w wr

/-- The relation of the loop that leaves out variables on which the table does not hang. -/
def L1R (n : Nat) (t : List Bool) (w : World) (tb o cp : Nat) (tv vv hv : Value) (wr : World) : Prop :=
  ∃ (m p : Nat) (t' : List Bool), tv = .slice (some ⟨tb, o, none⟩) (p + p) cp ∧ vv = .int .i64 (15 - (m : Int)) ∧ hv = .int .i64 p ∧ p = 2 ^ m ∧ m + 1 ≤ n ∧ t'.length = p + p ∧ unif t' = false ∧ TAt w t' tb o ∧ (∀ acc, dfs n t acc = dfs (m + 1) t' acc) ∧ (∀ acc, rf acc n t = rf acc (m + 1) t') ∧ Qt w wr

theorem tAt_take {w : World} {t : List Bool} {b o p : Nat} (h : TAt w t b o) (hp : p ≤ t.length) : TAt w (t.take p) b o := by
  intro i hi
  rw [List.length_take] at hi
  have := h i (by omega)
  rw [this, List.getD_eq_getElem?_getD, List.getD_eq_getElem?_getD, List.getElem?_take, if_pos (by omega)]
theorem tAt_drop {w : World} {t : List Bool} {b o p : Nat} (h : TAt w t b o) : TAt w (t.drop p) b (o + p) := by
  intro i hi
  rw [List.length_drop] at hi
  have := h (p + i) (by omega)
  rw [Nat.add_assoc, this, List.getD_eq_getElem?_getD, List.getD_eq_getElem?_getD, List.getElem?_drop]

theorem alike_q (s t : List Bool) (bb : Bool) (l l' b o c b' o' c' : Nat) (w : World) (hb : (s == t) = bb) (h : TAt w s b o) (h' : TAt w t b' o') (hs : s.length = l) (ht : t.length = l') (hl : l = l') (h2 : l ≤ 65536) (n : Nat) :
    Calls Try.prog 83 #[.slice (some ⟨b, o, none⟩) l c, .slice (some ⟨b', o', none⟩) l' c'] (w.drewN n) fun e w' => e = .returned (.bool bb) ∧ ∃ q, w' = w.drewN q :=
  (alike_len s t l l' b o c b' o' c' (w.drewN n) (h.block rfl) (h'.block rfl) hs ht hl h2).mono fun e w' ⟨h1, q, h2⟩ => ⟨by rw [h1, hb], n + q, by rw [h2, World.drewN_drewN]⟩

theorem info33 : (Try.prog.info? 33).map (fun i => (i.zero, i.size, i.bytes)) = some (some (.slice none 0 0), 1, 24) := by kernel_rfl

theorem WkRes.congr {n n' : Nat} {t t' : List Bool} {acc acc' : List Key} {lg lg' : Bool} {N' : List Nd} {r : Int} (h1 : ∀ acc, dfs n t acc = dfs n' t' acc) (h2 : ∀ acc, rf acc n t = rf acc n' t') (h : WkRes n' t' acc lg acc' N' lg' r) : WkRes n t acc lg acc' N' lg' r := by
  unfold WkRes at h ⊢
  rw [h1, h2]
  exact h

theorem idx_of_first {acc : List Key} {k : Key} {i : Nat} (hi : i < acc.length) (hk : acc.getD i (0, []) = k) (hf : ∀ j, j < i → acc.getD j (0, []) ≠ k) : acc.idxOf k = i := by
  have hm : k ∈ acc := by
    rw [← hk, List.getD_eq_getElem?_getD, List.getElem?_eq_getElem hi]
    exact List.getElem_mem hi
  have h1 := List.idxOf_lt_length_of_mem hm
  have h2 := List.getElem_idxOf h1
  rcases Nat.lt_trichotomy (acc.idxOf k) i with h | h | h
  · refine absurd ?_ (hf _ h)
    rw [List.getD_eq_getElem?_getD, List.getElem?_eq_getElem h1]
    exact h2
  · exact h
  · have := List.not_of_lt_findIdx (p := (· == k)) (xs := acc) (i := i) h
    rw [List.getD_eq_getElem?_getD, List.getElem?_eq_getElem hi] at hk
    simp only [Option.getD_some] at hk
    simp [hk] at this

theorem not_in_of {acc : List Key} {k : Key} (hf : ∀ j, j < acc.length → acc.getD j (0, []) ≠ k) : k ∉ acc := by
  intro hm
  obtain ⟨j, hj, e⟩ := List.mem_iff_getElem.1 hm
  refine hf j hj ?_
  rw [List.getD_eq_getElem?_getD, List.getElem?_eq_getElem hj]
  exact e

theorem wkRes_hit {m : Nat} {t : List Bool} {acc : List Key} {N : List Nd} {lg : Bool} (hd : t.take (2 ^ m) ≠ t.drop (2 ^ m)) (hm : (m + 1, t) ∈ acc) (hle : acc.length ≤ 2000) (hN : lg = false → N = acc.map (ndOf acc)) : WkRes (m + 1) t acc lg acc N lg (acc.idxOf (m + 1, t) : Int) := by
  obtain ⟨h1, h2⟩ := walk_hit hd hm
  refine ⟨fun h => h, fun h => ⟨fun _ => ⟨h, h1.symm, ?_, ?_⟩, fun h3 => ?_⟩⟩
  · rw [h1, h2]
  · rw [h1]; exact hN h
  · rw [h1] at h3; omega

set_option maxRecDepth 100000 in
set_option maxHeartbeats 1000000 in
theorem wk_non {w : World} {tb o cp m p : Nat} {t : List Bool} {v1 v2 : Value} {acc : List Key} {N : List Nd} {S : List Value} {lg : Bool} (h : MD w tb v1 v2 acc N S) (ht : TAt w t tb o) (hp : WkPre (m + 1) t acc N lg) (hu : unif t = false) (hpm : p = 2 ^ m) (hcp : p + p ≤ cp)
    (ih : ∀ (w : World) (o cp k : Nat) (t : List Bool) (v1 v2 : Value) (acc : List Key) (N : List Nd) (S : List Value) (lg : Bool), k ≤ m → 2 ^ k ≤ cp → MD w tb v1 v2 acc N S → TAt w t tb o → WkPre k t acc N lg →
      Calls Try.prog 48 #[.agg #[v1, v2, .bool lg], .slice (some ⟨tb, o, none⟩) (2 ^ k) cp, .int .i64 (16 - (k : Int))] w (WkPost w tb k t v1 v2 acc lg)) :
    Calls Try.prog 48 #[.agg #[v1, v2, .bool lg], .slice (some ⟨tb, o, none⟩) (p + p) cp, .int .i64 (15 - (m : Int))] w (WkPost w tb (m + 1) t v1 v2 acc lg) := by
  have hlen : t.length = p + p := by rw [hp.tl, hpm, Nat.pow_succ]; omega
  have h2 : p + p ≤ 65536 := by rw [← hlen, hp.tl]; exact Nat.le_trans (pow_mono hp.n16) (by decide)
  have h1 : 1 ≤ p := by rw [hpm]; exact Nat.one_le_two_pow
  have hm15 : m ≤ 15 := by have := hp.n16; omega
  obtain ⟨a1, c1, hv1⟩ := h.sl1
  obtain ⟨a2, c2, hv2⟩ := h.sl2
  subst hv1
  subst hv2
  have H := Lib.hid h; clear h
  have IH := Lib.hid ih; clear ih
  have HU := Lib.hid hu; clear hu
  have HP := Lib.hid hp; clear hp
  have HPM := Lib.hid hpm; clear hpm
  have HL := Lib.hid hlen; clear hlen
  obtain ⟨x1, x2, x3, x4⟩ := two_new w (.cells #[.slice a1 acc.length c1, .slice a2 acc.length c2, .bool lg] 71) (.cells #[.slice none 0 0, .slice none 0 0, .bool false] 71) _ rfl
  have X1 := Lib.hid x1; clear x1
  have X2 := Lib.hid x2; clear x2
  have X3 := Lib.hid x3; clear x3
  have X4 := Lib.hid x4; clear x4
  have T := Lib.hid ht; clear ht
  go_enter Try.func48, Try.ntmps48
  go_wp2_with fail
  generalize (w.alloc (.cells #[.slice a1 acc.length c1, .slice a2 acc.length c2, .bool lg] 71)).alloc (.cells #[.slice none 0 0, .slice none 0 0, .bool false] 71) = w1 at *
  have T1 := Lib.hid (T.out.block (X4.out.block tb H.out.blk))
  have C := uniform_len t (p + p) tb o cp w1 T1.out HL.out (by omega) h2
  rw [HU.out] at C
  refine C.mono ?_
  clear C
  rintro e w2 ⟨rfl, q, rfl⟩
  go_wp2_with fail
  go_loopw [1, 2, 8] (fun tv vv hv wr => L1R (m + 1) t w1 tb o cp tv vv hv wr) (fun tv _ _ _ => (match tv with | .slice _ l _ => l | _ => 0))
  case atStart => exact ⟨m, p, t, rfl, rfl, by congr 1; omega, HPM.out, Nat.le_refl _, HL.out, HU.out, T1.out, fun _ => rfl, fun _ => rfl, ⟨q, rfl⟩⟩
  case round =>
    obtain ⟨m', p', t', rfl, rfl, rfl, e1, e2, e3, e4, e5, e6, e7, e8⟩ := hrel
    have E1 := Lib.hid e1
    have hp1 : 1 ≤ p' := by rw [E1.out]; exact Nat.one_le_two_pow
    have hp2 : p' ≤ p := by rw [E1.out, HPM.out]; exact pow_mono (by omega)
    clear e1
    have E3 := Lib.hid e3; clear e3
    have E4 := Lib.hid e4; clear e4
    have E5 := Lib.hid e5; clear e5
    have E6 := Lib.hid e6; clear e6
    have E7 := Lib.hid e7; clear e7
    have E8 := Lib.hid e8; clear e8
    have TW := Lib.hid (E5.out.block (b := tb) (E8.out.block))
    have hl1 : Hid ((t'.take p').length = p') := by show _ = _; rw [List.length_take, E3.out]; omega
    have hl2 : Hid ((t'.drop p').length = p') := by show _ = _; rw [List.length_drop, E3.out]; omega
    by_cases hd : t'.take p' = t'.drop p'
    · have HD := Lib.hid hd
      have hb : (t'.take p' == t'.drop p') = true := by rw [HD.out]; simp
      have HB := Lib.hid hb
      clear hd hb
      have HS := Lib.hid (half_same (m := m') (t := t') (by rw [E3.out, E1.out, Nat.pow_succ]; omega) (by rw [← E1.out]; exact HD.out) E4.out)
      obtain ⟨k, hk⟩ := unif_pos (n := m') (t := t'.take (2 ^ m')) (by rw [← E1.out]; exact hl1.out) HS.out.2.2
      have HK := Lib.hid hk
      obtain ⟨pk, hpk⟩ : ∃ pk, pk = 2 ^ k := ⟨_, rfl⟩
      have HPP : Hid (p' = pk + pk) := by show _ = _; rw [E1.out, hk, hpk, Nat.pow_succ]; omega
      have HPK := Lib.hid hpk; clear hpk hk
      have x1 : (p' : Int) ≤ (cp : Int) := by omega
      have x2 : (p' : Int) ≤ ((p' : Int) + (p' : Int)) := by omega
      have x3 : (0 : Int) ≤ (p' : Int) := by omega
      have x4 : ¬ (cp = p') := by omega
      go_wp2_with fail
      go_quiet ((go_at_call 83; exact alike_q (t'.take p') (t'.drop p') true p' p' tb o cp tb (o + p') (cp - p') wr HB.out (tAt_take TW.out (by rw [E3.out]; omega)) (tAt_drop TW.out) hl1.out hl2.out rfl (by omega) _))
      go_wp2_with fail
      go_roundw
      case rel => exact ⟨k, pk, t'.take p', by rw [HPP.out], by rw [HK.out]; congr 1; omega, by rw [HPP.out]; congr 1; omega, HPK.out, by have := HK.out; omega, by rw [hl1.out, HPP.out], by rw [E1.out]; exact HS.out.2.2, tAt_take E5.out (by rw [E3.out]; omega), fun acc => by rw [E6.out, HS.out.1, ← E1.out, HK.out], fun acc => by rw [E7.out, HS.out.2.1, ← E1.out, HK.out], E8.out.drewN _⟩
      case measure => simp; omega
    · have hb : (t'.take p' == t'.drop p') = false := by simpa using hd
      have HB := Lib.hid hb
      have HD := Lib.hid hd
      clear hd hb
      have x1 : (p' : Int) ≤ (cp : Int) := by omega
      have x2 : (p' : Int) ≤ ((p' : Int) + (p' : Int)) := by omega
      have x3 : (0 : Int) ≤ (p' : Int) := by omega
      have x4 : ¬ (cp = p') := by omega
      go_wp2_with fail
      go_quiet ((go_at_call 83; exact alike_q (t'.take p') (t'.drop p') false p' p' tb o cp tb (o + p') (cp - p') wr HB.out (tAt_take TW.out (by rw [E3.out]; omega)) (tAt_drop TW.out) hl1.out hl2.out rfl (by omega) _))
      have Q2 := Lib.hid (E8.out.drewN nq)
      generalize wr.drewN nq = w2 at *
      clear E8 TW HB
      have LE := HP.out.le
      go_wp2_with fail
      go_loopw [9] (fun iv wr => L2R acc (m' + 1, t') w1 iv wr) (fun iv _ => acc.length - (intOf iv).toNat)
      case atStart => exact ⟨0, rfl, by omega, fun j hj => absurd hj (by omega), Q2.out⟩
      case round =>
        obtain ⟨i, rfl, f1, f2, f3⟩ := hrel
        have F2 := Lib.hid f2; clear f2
        have F3 := Lib.hid f3; clear f3
        obtain ⟨y0, y1, y2⟩ := cells3 (F3.out.block.trans X1.out)
        by_cases hi : i < acc.length
        · obtain ⟨g1, d1, g2, d2, o2, c, z1, z2, z3, z4, z5, z6⟩ := ((H.out.below X4.out).below F3.out.below).at hi
          injection z1 with z1a z1b z1c
          injection z2 with z2a z2b z2c
          subst z1a
          subst z1c
          subst z2a
          subst z2c
          obtain ⟨kk, tt, hkt⟩ : ∃ kk tt, acc.getD i (0, []) = (kk, tt) := ⟨_, _, rfl⟩
          rw [hkt] at z3 z4 z5 z6
          simp only at z3 z4 z5 z6
          have HKT := Lib.hid hkt; clear hkt
          have Z5 := Lib.hid z5; clear z5
          have Z6 := Lib.hid z6; clear z6
          by_cases hk : kk = m' + 1
          · have hv : ((16 - (kk : Int)) == (15 - (m' : Int))) = true := by simp; omega
            generalize (16 - (kk : Int)) = vi at *
            have LN : Hid (tt.length = p' + p') := by show _ = _; rw [Z6.out, hk, E1.out, Nat.pow_succ]; omega
            have TW := Lib.hid (E5.out.block (b := tb) (F3.out.block))
            have HK := Lib.hid hk; clear hk
            by_cases hq : tt = t'
            · have HQ := Lib.hid hq; clear hq
              have HQB : Hid ((tt == t') = true) := by show _ = _; rw [HQ.out]; simp
              have ID := Lib.hid (idx_of_first hi (HKT.out.trans (by rw [HK.out, HQ.out])) F2.out)
              have IM : Hid ((m' + 1, t') ∈ acc) := by
                show _ ∈ _
                have : acc.getD i (0, []) ∈ acc := by rw [List.getD_eq_getElem?_getD, List.getElem?_eq_getElem hi]; exact List.getElem_mem hi
                rw [HKT.out, HK.out, HQ.out] at this
                exact this
              go_wp2_with fail
              have C := alike_len tt t' tt.length (p' + p') tb o2 c tb o cp _ Z5.out TW.out rfl E3.out LN.out (by rw [LN.out]; omega)
              rw [HQB.out] at C
              refine C.mono ?_
              clear C
              rintro e w3 ⟨rfl, q3, rfl⟩
              obtain ⟨r0, r1, r2⟩ := cells3 (F3.out.block.trans X2.out)
              obtain ⟨u0, u1, u2⟩ := three_cells (F3.out.block.trans X2.out)
              go_wp2_with fail
              have BF := below_three (W := wr.drewN q3) (X4.out.trans ((F3.out.drewN q3).below.mono X4.out.size)) (.slice (some ⟨g1, 0, none⟩) acc.length c1) (.slice (some ⟨g2, 0, none⟩) acc.length c2) (.bool lg) (k := w.heap.size + 1) (by omega)
              exact bodyPost_ret (v := .tuple #[.agg #[.slice (some ⟨g1, 0, none⟩) acc.length c1, .slice (some ⟨g2, 0, none⟩) acc.length c2, .bool lg], .int .i64 (i : Int)]) (by simp [results, Try.results48, go_sem, r0, r1, r2]) rfl ⟨_, _, acc, N, S, lg, i, rfl, H.out.below BF, LE, FS2.below BF, WkRes.congr E6.out E7.out (by have := wkRes_hit (N := N) (lg := lg) (by rw [← E1.out]; exact HD.out) IM.out LE HP.out.nd; rw [ID.out] at this; exact this)⟩
            · have HQB : Hid ((tt == t') = false) := by show _ = _; simpa using hq
              have HQ := Lib.hid hq; clear hq
              go_wp2_with fail
              have C := alike_len tt t' tt.length (p' + p') tb o2 c tb o cp _ Z5.out TW.out rfl E3.out LN.out (by rw [LN.out]; omega)
              rw [HQB.out] at C
              refine C.mono ?_
              clear C
              rintro e w3 ⟨rfl, q3, rfl⟩
              go_wp2_with fail
              go_roundw
              case rel => exact ⟨i + 1, by go_num, by omega, fun j hj => by
                rcases Nat.lt_succ_iff_lt_or_eq.1 hj with h | h
                · exact F2.out j h
                · rw [h, HKT.out]; intro e; exact HQ.out (by injection e), F3.out.drewN _⟩
              case measure => simp [intOf]; omega
          · have hv : ((16 - (kk : Int)) == (15 - (m' : Int))) = false := by simp; omega
            generalize (16 - (kk : Int)) = vi at *
            go_wp2_with fail
            go_roundw
            case rel => exact ⟨i + 1, by go_num, by omega, fun j hj => by
              rcases Nat.lt_succ_iff_lt_or_eq.1 hj with h | h
              · exact F2.out j h
              · rw [h, HKT.out]; intro e; exact hk (by injection e), F3.out⟩
            case measure => simp [intOf]; omega
        · obtain rfl : i = acc.length := by omega
          have NI := Lib.hid (not_in_of F2.out)
          have B0 : Hid (BX w wr tb (.slice a1 acc.length c1) (.slice a2 acc.length c2) (.slice a1 acc.length c1) (.slice a2 acc.length c2) lg N.length acc.length (nsC N) S) :=
            ⟨F3.out.block.trans X1.out, F3.out.block.trans X2.out, ((H.out.below X4.out).below F3.out.below).row1, ((H.out.below X4.out).below F3.out.below).row2, FS2.below (X4.out.trans (F3.out.below.mono X4.out.size)), F3.out.block.trans (X4.out.block tb H.out.blk), H.out.blk, H.out.far1, H.out.far2⟩
          have M0 := Lib.hid ((H.out.below X4.out).below F3.out.below)
          have TL : Hid (t'.length = 2 ^ (m' + 1)) := by show _ = _; rw [E3.out, E1.out, Nat.pow_succ]; omega
          have HDD : Hid (t'.take (2 ^ m') ≠ t'.drop (2 ^ m')) := by rw [← E1.out]; exact HD.out
          have C1 := IH.out wr.drew o cp m' (t'.take (2 ^ m')) _ _ acc N S lg (by omega) (by rw [← E1.out]; omega) (M0.out.of_blocks (by simp) fun _ _ => rfl) (tAt_take (E5.out.block (b := tb) F3.out.block) (by rw [TL.out, Nat.pow_succ]; omega)) (wkPre_first (by omega) TL.out LE HP.out.cl HP.out.nd)
          rw [← E1.out, show (16 - (m' : Int)) = 15 - (m' : Int) + 1 by omega] at C1
          have C1H := Lib.hid C1; clear C1
          go_wp2_with fail
          have wr1 : IntKind.i64.wrap (15 - (m' : Int) + 1) = 15 - (m' : Int) + 1 := IntWalk.i64_in _ (by omega)
          go_region_with ((go_at_call 48; refine C1H.out.mono ?_; rintro e w3 ⟨v3, v4, acc1, N1, S1, lg1, r1, rfl, md1, le1, fs1, res1⟩; obtain ⟨b1, d1, hv3⟩ := md1.sl1; obtain ⟨b2, d2, hv4⟩ := md1.sl2; subst hv3; subst hv4; have bl3 : Hid (w3.heap[w.heap.size]? = _) := (fs1.keep _ (lt_of_some B0.out.box) B0.out.ne1.1 B0.out.ne2.1).trans B0.out.box; obtain ⟨k0, k1, k2⟩ := cells3 bl3.out; obtain ⟨l0, l1, l2⟩ := three_cells bl3.out; have MD0 := Lib.hid md1; clear md1; have FS0 := Lib.hid fs1; clear fs1; have RES0 := Lib.hid res1; clear res1))
          go_wp2_with fail
          obtain ⟨s1, s2, s3, s4, s5, s6⟩ := set_three bl3.out (.slice b1 acc1.length d1) (.slice b2 acc1.length d2) (.bool lg1) _ rfl
          have B1 := Lib.hid (B0.out.call MD0.out ⟨FS0.out.os, FS0.out.tape, FS0.out.output, FS0.out.size, FS0.out.keep, FS0.out.loc1, FS0.out.loc2⟩ s1 s2 s3 s4 s5 s6)
          have MD1 := Lib.hid (MD0.out.of_blocks (Nat.le_of_eq s3.symm) fun k hk => s2 k (by
            rintro rfl
            rcases hk with e | e | e
            · have := B0.out.tlt; omega
            · exact B1.out.ne1.1 e
            · exact B1.out.ne2.1 e))
          clear s1 s2 s3 s4 s5 s6 MD0 FS0
          have RES1 : Hid (WkRes m' (t'.take (2 ^ m')) acc lg acc1 N1 lg1 r1) := by have := RES0.out; rw [E1.out] at this; exact this
          clear RES0
          generalize ((w3.setCell ⟨w.heap.size, 0, none⟩ (.slice b1 acc1.length d1)).setCell ⟨w.heap.size, 1, none⟩ (.slice b2 acc1.length d2)).setCell ⟨w.heap.size, 2, none⟩ (.bool lg1) = w4 at *
          clear k0 k1 k2 l0 l1 l2 y0 y1 y2 bl3 C1H
          obtain ⟨y0, y1, y2⟩ := cells3 B1.out.box
          have C2 := IH.out w4.drew (o + p') (cp - p') m' (t'.drop (2 ^ m')) _ _ acc1 N1 S1 lg1 (by omega) (by rw [← E1.out]; omega) (MD1.out.of_blocks (by simp) fun _ _ => rfl) (by rw [← E1.out]; exact tAt_drop ((E5.out.block (b := tb) (X4.out.block tb H.out.blk).symm).block (b := tb) B1.out.tbk)) (wkPre_second (by omega) TL.out HP.out.cl RES1.out le1)
          rw [← E1.out, show (16 - (m' : Int)) = 15 - (m' : Int) + 1 by omega] at C2
          have C2H := Lib.hid C2; clear C2
          go_region_with ((go_at_call 48; refine C2H.out.mono ?_; rintro e w5 ⟨v3, v4, acc2, N2, S2, lg2, r2, rfl, md2, le2, fs2, res2⟩; obtain ⟨f1, i1, hv3⟩ := md2.sl1; obtain ⟨f2, i2, hv4⟩ := md2.sl2; subst hv3; subst hv4; have bl3 : Hid (w5.heap[w.heap.size]? = _) := (fs2.keep _ (lt_of_some B1.out.box) B1.out.ne1.1 B1.out.ne2.1).trans B1.out.box; obtain ⟨k0, k1, k2⟩ := cells3 bl3.out; obtain ⟨l0, l1, l2⟩ := three_cells bl3.out; have MD0 := Lib.hid md2; clear md2; have FS0 := Lib.hid fs2; clear fs2; have RES0 := Lib.hid res2; clear res2))
          go_upto_region 19 with fail
          obtain ⟨s1, s2, s3, s4, s5, s6⟩ := set_three bl3.out (.slice f1 acc2.length i1) (.slice f2 acc2.length i2) (.bool lg2) _ rfl
          have B2 := Lib.hid (B1.out.call MD0.out ⟨FS0.out.os, FS0.out.tape, FS0.out.output, FS0.out.size, FS0.out.keep, FS0.out.loc1, FS0.out.loc2⟩ s1 s2 s3 s4 s5 s6)
          have MD2 := Lib.hid (MD0.out.of_blocks (Nat.le_of_eq s3.symm) fun k hk => s2 k (by
            rintro rfl
            rcases hk with e | e | e
            · have := B0.out.tlt; omega
            · exact B2.out.ne1.1 e
            · exact B2.out.ne2.1 e))
          clear s1 s2 s3 s4 s5 s6 MD0 FS0 y0 y1 y2 C2H wr1
          have RES2 : Hid (WkRes m' (t'.drop (2 ^ m')) acc1 lg1 acc2 N2 lg2 r2) := by have := RES0.out; rw [E1.out] at this; exact this
          clear RES0
          generalize ((w5.setCell ⟨w.heap.size, 0, none⟩ (.slice f1 acc2.length i1)).setCell ⟨w.heap.size, 1, none⟩ (.slice f2 acc2.length i2)).setCell ⟨w.heap.size, 2, none⟩ (.bool lg2) = w6 at *
          clear k0 k1 k2 l0 l1 l2 bl3
          obtain ⟨y0, y1, y2⟩ := cells3 B2.out.box
          obtain ⟨r0, r01, r02⟩ := cells3 B2.out.res
          obtain ⟨z0, z1, z2⟩ := three_cells B2.out.res
          obtain ⟨q0, q1, q2⟩ := three_cells B2.out.box
          by_cases hlg : lg2 = true
          · have RR := Lib.hid (WkRes.congr E6.out E7.out (wkRes_large HDD.out NI.out RES1.out RES2.out (Or.inl hlg) acc2 N2 0))
            subst hlg
            go_wp2_with fail
            have FN := B2.out.fin (W := (((w6.setCell ⟨w.heap.size, 2, none⟩ (.bool true)).setCell ⟨w.heap.size + 1, 0, none⟩ (.slice f1 acc2.length i1)).setCell ⟨w.heap.size + 1, 1, none⟩ (.slice f2 acc2.length i2)).setCell ⟨w.heap.size + 1, 2, none⟩ (.bool true)) (fun k a b => by rw [Below.heap_setCell _ _ _ _ b, Below.heap_setCell _ _ _ _ b, Below.heap_setCell _ _ _ _ b, Below.heap_setCell _ _ _ _ a]) (by simp) rfl rfl rfl
            exact bodyPost_ret (v := .tuple #[.agg #[.slice f1 acc2.length i1, .slice f2 acc2.length i2, .bool true], .int .i64 0]) (by simp [results, Try.results48, go_sem, r0, r01, r02]) rfl ⟨_, _, acc2, N2, S2, true, 0, rfl, FN.2 _ _ _ MD2.out, le2, FN.1, RR.out⟩
          · have hlg2 : lg2 = false := by simpa using hlg
            subst hlg2
            clear hlg
            by_cases h2k : acc2.length = 2000
            · have RR := Lib.hid (WkRes.congr E6.out E7.out (wkRes_large HDD.out NI.out RES1.out RES2.out (Or.inr h2k) acc2 N2 0))
              have hb2k : ((acc2.length : Int) == 2000) = true := by simp; omega
              clear h2k
              go_wp2_with fail
              have FN := B2.out.fin (W := (((w6.setCell ⟨w.heap.size, 2, none⟩ (.bool true)).setCell ⟨w.heap.size + 1, 0, none⟩ (.slice f1 acc2.length i1)).setCell ⟨w.heap.size + 1, 1, none⟩ (.slice f2 acc2.length i2)).setCell ⟨w.heap.size + 1, 2, none⟩ (.bool true)) (fun k a b => by rw [Below.heap_setCell _ _ _ _ b, Below.heap_setCell _ _ _ _ b, Below.heap_setCell _ _ _ _ b, Below.heap_setCell _ _ _ _ a]) (by simp) rfl rfl rfl
              exact bodyPost_ret (v := .tuple #[.agg #[.slice f1 acc2.length i1, .slice f2 acc2.length i2, .bool true], .int .i64 0]) (by simp [results, Try.results48, go_sem, r0, r01, r02]) rfl ⟨_, _, acc2, N2, S2, true, 0, rfl, FN.2 _ _ _ MD2.out, le2, FN.1, RR.out⟩
            · have hb2k : ((acc2.length : Int) == 2000) = false := by simp; omega
              have lt2 : acc2.length < 2000 := by omega
              have RR := Lib.hid (WkRes.congr E6.out E7.out (wkRes_push HP.out.cl HDD.out NI.out RES1.out RES2.out rfl lt2))
              clear h2k
              obtain ⟨i0, hi0, hz0, hz1, hz2⟩ := info_parts info77
              obtain ⟨j0, hj0, hy0, hy1, hy2⟩ := info_parts info33
              have NL := Lib.hid MD2.out.len
              have row1 : Hid (w6.ownsRow 0 77 3 (.slice f1 acc2.length i1) acc2.length (nsC N2)) := by have := B2.out.row1; rw [NL.out] at this; exact this
              go_upto_region 23 with (at_builtin; refine wpList_append_lies _ rfl _ _ 25 rfl 0 77 i0 _ 3 24 Try.underlying25 hi0 hz0 hz1 hz2 rfl (by omega) (.slice f1 acc2.length i1) acc2.length (nsC N2) rfl (row1.out.alloc _) ⟨w6.heap.size, 0, none⟩ 1 1 [.int .i64 (15 - (m' : Int)), .int .i64 r1, .int .i64 r2] rfl rfl (World.news_of_block (cs := #[.int .i64 (15 - (m' : Int)), .int .i64 r1, .int .i64 r2]) (t := 77) (fr := (0, 0)) (heap_alloc_new w6 _)) (by simp [Value.oneCell']) (by omega) (by unfold maxLen; omega) (by omega) (Nat.zero_le _) (w6.heap.size + 1) (by simp) ?_; intro gg cap1 w7 hown7 hgrow7 hat7 hlt7; have B3 := Lib.hid (B2.out.push1 hgrow7 hown7 hat7); have bg := B2.out.box_grown hgrow7 B2.out.ne1.1; obtain ⟨k0, k1, k2⟩ := cells3 bg; obtain ⟨l0, l1, l2⟩ := three_cells bg; clear bg hown7 hgrow7 hat7 hlt7)
              generalize w7.setCell ⟨w.heap.size, 0, none⟩ (.slice (some ⟨gg, 0, none⟩) (acc2.length + 1) cap1) = w8 at *
              clear k0 k1 k2 l0 l1 l2 y0 y1 y2 r0 r01 r02 z0 z1 z2 q0 q1 q2
              obtain ⟨y0, y1, y2⟩ := cells3 B3.out.box
              go_upto_region 24 with (at_builtin; refine wpList_append_lies _ rfl _ _ 69 rfl 0 33 j0 _ 1 24 Try.underlying69 hj0 hy0 hy1 hy2 rfl (by omega) (.slice f2 acc2.length i2) acc2.length S2 rfl (B3.out.row2.alloc _) ⟨w8.heap.size, 0, none⟩ 1 1 [.slice (some ⟨tb, o, none⟩) (p' + p') cp] rfl rfl (World.news_of_block (cs := #[.slice (some ⟨tb, o, none⟩) (p' + p') cp]) (t := 33) (fr := (0, 0)) (heap_alloc_new w8 _)) (by simp [Value.oneCell']) (by omega) (by unfold maxLen; omega) (by omega) (Nat.zero_le _) (w8.heap.size + 1) (by simp) ?_; intro g9 cap2 w9 hown9 hgrow9 hat9 hlt9; have B4 := Lib.hid (B3.out.push2 hgrow9 hown9 hat9); have bg := B3.out.box_grown hgrow9 B3.out.ne2.1; obtain ⟨k0, k1, k2⟩ := cells3 bg; obtain ⟨l0, l1, l2⟩ := three_cells bg; clear bg hown9 hgrow9 hat9 hlt9)
              generalize w9.setCell ⟨w.heap.size, 1, none⟩ (.slice (some ⟨g9, 0, none⟩) (acc2.length + 1) cap2) = w10 at *
              clear k0 k1 k2 l0 l1 l2 y0 y1 y2
              obtain ⟨y0, y1, y2⟩ := cells3 B4.out.box
              obtain ⟨r0, r01, r02⟩ := cells3 B4.out.res
              obtain ⟨z0, z1, z2⟩ := three_cells B4.out.res
              go_region
              go_wp2_with fail
              have FN := B4.out.fin (W := (((w10.setCell ⟨w.heap.size + 1, 0, none⟩ (.slice (some ⟨gg, 0, none⟩) (acc2.length + 1) cap1)).setCell ⟨w.heap.size + 1, 1, none⟩ (.slice (some ⟨g9, 0, none⟩) (acc2.length + 1) cap2)).setCell ⟨w.heap.size + 1, 2, none⟩ (.bool false)).drew) (fun k a b => by show (World.setCell _ _ _).heap[k]? = _; rw [Below.heap_setCell _ _ _ _ b, Below.heap_setCell _ _ _ _ b, Below.heap_setCell _ _ _ _ b]) (by simp) rfl rfl rfl
              obtain ⟨ls1, ls2, ls3, ls4⟩ := MD2.out.lists (w0 := w) B2.out.tbk.symm (c := cp) (r1 := r1) (r2 := r2) TL.out (E5.out.block (b := tb) (X4.out.block tb H.out.blk).symm)
              rw [E3.out] at ls2 ls4
              have MDF := B4.out.md ls1 ls2 ls3 ls4 (by simp [NL.out]) (by simp) (by rw [nsC_append]; rfl) rfl
              exact bodyPost_ret (v := .tuple #[.agg #[.slice (some ⟨gg, 0, none⟩) (acc2.length + 1) cap1, .slice (some ⟨g9, 0, none⟩) (acc2.length + 1) cap2, .bool false], .int .i64 (acc2.length : Int)]) (by simp [results, Try.results48, go_sem, r0, r01, r02]) rfl ⟨_, _, acc2 ++ [(m' + 1, t')], N2 ++ [(15 - (m' : Int), r1, r2)], S2 ++ [.slice (some ⟨tb, o, none⟩) (p' + p') cp], false, acc2.length, rfl, FN.2 _ _ _ MDF, by simp; omega, FN.1, RR.out⟩

theorem wk_any (tb : Nat) (n : Nat) : ∀ (w : World) (o cp k : Nat) (t : List Bool) (v1 v2 : Value) (acc : List Key) (N : List Nd) (S : List Value) (lg : Bool), k ≤ n → 2 ^ k ≤ cp → MD w tb v1 v2 acc N S → TAt w t tb o → WkPre k t acc N lg →
      Calls Try.prog 48 #[.agg #[v1, v2, .bool lg], .slice (some ⟨tb, o, none⟩) (2 ^ k) cp, .int .i64 (16 - (k : Int))] w (WkPost w tb k t v1 v2 acc lg) := by
  induction n with
  | zero =>
    intro w o cp k t v1 v2 acc N S lg hk hcp h ht hp
    obtain rfl : k = 0 := by omega
    have := wk_uni (cp := cp) (v := 16 - ((0 : Nat) : Int)) h ht hp (unif_one (by rw [hp.tl]))
    rw [hp.tl] at this
    exact this
  | succ n ih =>
    intro w o cp k t v1 v2 acc N S lg hk hcp h ht hp
    cases hu : unif t with
    | true =>
      have := wk_uni (cp := cp) (v := 16 - (k : Int)) h ht hp hu
      rw [hp.tl] at this
      exact this
    | false =>
      obtain ⟨m, rfl⟩ := unif_pos hp.tl hu
      have := wk_non (cp := cp) h ht hp hu (p := 2 ^ m) rfl (by rw [Nat.pow_succ] at hcp; omega) fun w o cp k t v1 v2 acc N S lg hk => ih w o cp k t v1 v2 acc N S lg (by omega)
      rw [show 2 ^ m + 2 ^ m = 2 ^ (m + 1) by rw [Nat.pow_succ]; omega, show (15 - (m : Int)) = 16 - ((m + 1 : Nat) : Int) by omega] at this
      exact this

end Go.Proofs.Ythhogbligfmpdaa
