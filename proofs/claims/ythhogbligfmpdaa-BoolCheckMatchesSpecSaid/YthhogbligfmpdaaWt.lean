/- A diagram that the reference makes of a table, in memory. -/
import Derived.Test.YthhogbligfmpdaaWs
import Derived.Test.YthhogbligfmpdaaPa
set_option linter.unusedVariables false
set_option linter.unusedSimpArgs false
namespace Go.Proofs.Ythhogbligfmpdaa
open Go.RowKit Bd

theorem uniform_len (t : List Bool) (l b o cap : Nat) (w : World) (h : TAt w t b o) (hl : t.length = l) (h1 : 1 ≤ l) (h2 : l ≤ 65536) :
    Calls Try.prog 82 #[.slice (some ⟨b, o, none⟩) l cap] w fun e w' => e = .returned (.bool (unif t)) ∧ ∃ q, w' = w.drewN q := by
  subst hl; exact uniform_any t b o cap w h h1 h2
theorem alike_len (s t : List Bool) (l l' b o c b' o' c' : Nat) (w : World) (h : TAt w s b o) (h' : TAt w t b' o') (hs : s.length = l) (ht : t.length = l') (hl : l = l') (h2 : l ≤ 65536) :
    Calls Try.prog 83 #[.slice (some ⟨b, o, none⟩) l c, .slice (some ⟨b', o', none⟩) l' c'] w fun e w' => e = .returned (.bool (s == t)) ∧ ∃ q, w' = w.drewN q := by
  subst hs; subst ht; exact alike_any s t b o c b' o' c' w h h' hl h2

/-- What a step over two rows may turn. -/
structure FS2 (w : World) (v1 v2 : Value) (w' : World) (v1' v2' : Value) : Prop where
  os : w'.os = w.os
  tape : w'.tape = w.tape
  output : w'.output = w.output
  size : w.heap.size ≤ w'.heap.size
  keep : ∀ k, k < w.heap.size → v1.ownBlock ≠ some k → v2.ownBlock ≠ some k → w'.heap[k]? = w.heap[k]?
  loc1 : ∀ g, v1'.ownBlock = some g → v1.ownBlock = some g ∨ w.heap.size ≤ g
  loc2 : ∀ g, v2'.ownBlock = some g → v2.ownBlock = some g ∨ w.heap.size ≤ g

theorem FS2.refl (w : World) (v1 v2 : Value) : FS2 w v1 v2 w v1 v2 := ⟨rfl, rfl, rfl, Nat.le_refl _, fun _ _ _ _ => rfl, fun _ h => Or.inl h, fun _ h => Or.inl h⟩
theorem FS2.trans {w w1 w2 : World} {v1 v2 u1 u2 x1 x2 : Value} (h : FS2 w v1 v2 w1 u1 u2) (k : FS2 w1 u1 u2 w2 x1 x2) : FS2 w v1 v2 w2 x1 x2 := by
  refine ⟨k.os.trans h.os, k.tape.trans h.tape, k.output.trans h.output, Nat.le_trans h.size k.size, ?_, ?_, ?_⟩
  · intro j hj h1 h2
    rw [k.keep j (Nat.lt_of_lt_of_le hj h.size) ?_ ?_, h.keep j hj h1 h2]
    · intro e
      rcases h.loc1 j e with e' | e'
      · exact h1 e'
      · omega
    · intro e
      rcases h.loc2 j e with e' | e'
      · exact h2 e'
      · omega
  · intro g hg
    rcases k.loc1 g hg with e | e
    · exact h.loc1 g e
    · exact Or.inr (Nat.le_trans h.size e)
  · intro g hg
    rcases k.loc2 g hg with e | e
    · exact h.loc2 g e
    · exact Or.inr (Nat.le_trans h.size e)
/-- All that was there is as it was. -/
theorem FS2.below {w w' : World} {v1 v2 : Value} (h : Below w.heap.size w w') : FS2 w v1 v2 w' v1 v2 := ⟨h.os, h.tape, h.output, h.size, fun k hk _ _ => h.block k hk, fun _ h => Or.inl h, fun _ h => Or.inl h⟩

/-- Keys whose tables lie in block tb; a row of nodes with their variables; a row of the tables' slices. -/
structure MD (w : World) (tb : Nat) (v1 v2 : Value) (acc : List Key) (N : List Nd) (S : List Value) : Prop where
  len : N.length = acc.length
  slen : S.length = acc.length
  var : ∀ i, i < acc.length → (nd N i).1 = 16 - ((acc.getD i (0, [])).1 : Int)
  row1 : w.ownsRow 0 77 3 v1 N.length (nsC N)
  row2 : w.ownsRow 0 33 1 v2 acc.length S
  tabs : ∀ i, i < acc.length → ∃ o c, S[i]? = some (.slice (some ⟨tb, o, none⟩) (acc.getD i (0, [])).2.length c) ∧ TAt w (acc.getD i (0, [])).2 tb o ∧ (acc.getD i (0, [])).2.length = 2 ^ (acc.getD i (0, [])).1
  far1 : v1.ownBlock ≠ some tb
  far2 : v2.ownBlock ≠ some tb
  blk : tb < w.heap.size

theorem MD.apart {w : World} {tb : Nat} {v1 v2 : Value} {acc : List Key} {N : List Nd} {S : List Value} (h : MD w tb v1 v2 acc N S) {g : Nat} (h1 : v1.ownBlock = some g) : v2.ownBlock ≠ some g := by
  intro h2
  rcases h.row1.2 with ⟨e, _⟩ | ⟨g1, c1, cur1, e1, _, b1, _⟩
  · rw [e] at h1; simp [Value.ownBlock] at h1
  · rcases h.row2.2 with ⟨e, _⟩ | ⟨g2, c2, cur2, e2, _, b2, _⟩
    · rw [e] at h2; simp [Value.ownBlock] at h2
    · rw [e1] at h1
      rw [e2] at h2
      simp only [Value.ownBlock, Option.some.injEq] at h1 h2
      subst h1
      subst h2
      rw [b1] at b2
      simp at b2

theorem MD.sl1 {w : World} {tb : Nat} {v1 v2 : Value} {acc : List Key} {N : List Nd} {S : List Value} (h : MD w tb v1 v2 acc N S) : ∃ a c, v1 = .slice a acc.length c := by
  rcases h.row1.2 with ⟨e, e2⟩ | ⟨g1, c1, cur1, e1, _⟩
  · exact ⟨none, 0, by rw [e, ← h.len, e2]⟩
  · exact ⟨_, c1, by rw [e1, h.len]⟩
theorem MD.sl2 {w : World} {tb : Nat} {v1 v2 : Value} {acc : List Key} {N : List Nd} {S : List Value} (h : MD w tb v1 v2 acc N S) : ∃ a c, v2 = .slice a acc.length c := by
  rcases h.row2.2 with ⟨e, e2⟩ | ⟨g1, c1, cur1, e1, _⟩
  · exact ⟨none, 0, by rw [e, e2]⟩
  · exact ⟨_, c1, e1⟩

theorem MD.of_blocks {w w' : World} {tb : Nat} {v1 v2 : Value} {acc : List Key} {N : List Nd} {S : List Value} (h : MD w tb v1 v2 acc N S) (hs : w.heap.size ≤ w'.heap.size) (hb : ∀ k, (k = tb ∨ v1.ownBlock = some k ∨ v2.ownBlock = some k) → w'.heap[k]? = w.heap[k]?) : MD w' tb v1 v2 acc N S := by
  refine ⟨h.len, h.slen, h.var, ownsRow_of_block h.row1 fun g hg => hb g (Or.inr (Or.inl hg)), ownsRow_of_block h.row2 fun g hg => hb g (Or.inr (Or.inr hg)), ?_, h.far1, h.far2, Nat.lt_of_lt_of_le h.blk hs⟩
  intro i hi
  obtain ⟨o, c, h1, h2, h3⟩ := h.tabs i hi
  exact ⟨o, c, h1, h2.block (hb tb (Or.inl rfl)), h3⟩
theorem MD.below {w w' : World} {tb : Nat} {v1 v2 : Value} {acc : List Key} {N : List Nd} {S : List Value} (h : MD w tb v1 v2 acc N S) (hb : Below w.heap.size w w') : MD w' tb v1 v2 acc N S :=
  h.of_blocks hb.size fun k hk => hb.block k (by
    rcases hk with rfl | hk | hk
    · exact h.blk
    · exact (h.row1.lt k hk).2
    · exact (h.row2.lt k hk).2)

/-- Entry i of both rows. -/
theorem MD.at {w : World} {tb : Nat} {v1 v2 : Value} {acc : List Key} {N : List Nd} {S : List Value} (h : MD w tb v1 v2 acc N S) {i : Nat} (hi : i < acc.length) :
    ∃ g1 c1 g2 c2 o c, v1 = .slice (some ⟨g1, 0, none⟩) acc.length c1 ∧ v2 = .slice (some ⟨g2, 0, none⟩) acc.length c2 ∧ w.cell? ⟨g1, i * 3, none⟩ = some (.int .i64 (16 - ((acc.getD i (0, [])).1 : Int))) ∧
      w.cell? ⟨g2, i, none⟩ = some (.slice (some ⟨tb, o, none⟩) (acc.getD i (0, [])).2.length c) ∧ TAt w (acc.getD i (0, [])).2 tb o ∧ (acc.getD i (0, [])).2.length = 2 ^ (acc.getD i (0, [])).1 := by
  obtain ⟨o, c, t1, t2, t3⟩ := h.tabs i hi
  have r1 := h.row1
  have r2 := h.row2
  rcases h.row1.2 with ⟨_, e2⟩ | ⟨g1, c1, cur1, e1, _⟩
  · have := h.len; omega
  · rcases h.row2.2 with ⟨_, e2⟩ | ⟨g2, c2, cur2, e2, _⟩
    · omega
    · rw [e1] at r1
      rw [e2] at r2
      have hn := nsC_at N i (by rw [h.len]; exact hi)
      refine ⟨g1, c1, g2, c2, o, c, by rw [e1, h.len], e2, ?_, ?_, t2, t3⟩
      · rw [r1.cellAt _ (by have := h.len; omega), hn.1, h.var i hi]
      · rw [r2.cellAt _ (by omega)]; exact t1

/-- What the walk over a table comes to, in plain words. -/
def WkRes (n : Nat) (t : List Bool) (acc : List Key) (lg : Bool) (acc' : List Key) (N' : List Nd) (lg' : Bool) (r : Int) : Prop :=
  (lg = true → lg' = true) ∧ (lg = false → ((dfs n t acc).length ≤ 2000 → lg' = false ∧ acc' = dfs n t acc ∧ r = rf (dfs n t acc) n t ∧ N' = (dfs n t acc).map (ndOf (dfs n t acc))) ∧ (2000 < (dfs n t acc).length → lg' = true))

def WkPost (w : World) (tb n : Nat) (t : List Bool) (v1 v2 : Value) (acc : List Key) (lg : Bool) (e : Ending) (w' : World) : Prop :=
  ∃ v1' v2' acc' N' S' lg' r, e = .returned (.tuple #[.agg #[v1', v2', .bool lg'], .int .i64 r]) ∧ MD w' tb v1' v2' acc' N' S' ∧ acc'.length ≤ 2000 ∧ FS2 w v1 v2 w' v1' v2' ∧ WkRes n t acc lg acc' N' lg' r

/-- What is given. -/
structure WkPre (n : Nat) (t : List Bool) (acc : List Key) (N : List Nd) (lg : Bool) : Prop where
  tl : t.length = 2 ^ n
  n16 : n ≤ 16
  le : acc.length ≤ 2000
  cl : lg = false → Closed acc
  nd : lg = false → N = acc.map (ndOf acc)

end Go.Proofs.Ythhogbligfmpdaa
