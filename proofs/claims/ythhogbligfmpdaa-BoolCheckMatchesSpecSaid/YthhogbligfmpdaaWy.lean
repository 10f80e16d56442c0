/- The method add. -/
import Derived.Test.YthhogbligfmpdaaWx
import Derived.Test.YthhogbligfmpdaaPf
set_option linter.unusedVariables false
set_option linter.unusedSimpArgs false
namespace Go.Proofs.Ythhogbligfmpdaa
open Go.RowKit Bd

set_option maxRecDepth 100000 in
set_option maxHeartbeats 400000 in
/-- The closure of add: a constant is itself, a node is where it has gone. -/
theorem at_any {w : World} {b g n cap : Nat} {at' : Nat → Int} {r : Int} (hb : w.cell? ⟨b, 0, none⟩ = some (.slice (some ⟨g, 0, none⟩) n cap)) (hr : r < (n : Int)) (ha : 0 ≤ r → w.cell? ⟨g, r.toNat, none⟩ = some (.int .i64 (at' r.toNat))) :
    Calls Try.prog 84 #[.int .i64 r, .pointer (some ⟨b, 0, none⟩)] w fun e w' => e = .returned (.int .i64 (mp at' r)) ∧ w = w' := by
  by_cases h0 : r < 0
  · have e : mp at' r = r := by simp [mp, h0]
    rw [e]
    go_enter Try.func84, Try.ntmps84
    go_wp2_with fail
    go_ret
    exact ⟨rfl, rfl⟩
  · obtain ⟨i, rfl⟩ := Int.eq_ofNat_of_zero_le (by omega : 0 ≤ r)
    have e : mp at' (i : Int) = at' i := by unfold mp; rw [if_neg (by omega)]; simp
    rw [e]
    have c := ha (by omega)
    simp only [Int.toNat_natCast] at c
    clear ha
    generalize at' i = x at *
    have h1 : ¬ ((i : Int) < 0) := by omega
    go_enter Try.func84, Try.ntmps84
    go_wp2_with fail
    go_ret
    exact ⟨rfl, rfl⟩

/-- The state of the loop of add: k nodes have gone over; the array lies in block b + 1. -/
structure AddR (W : World) (M : ML) (ns ds : List Nd) (b n k : Nat) (wr : World) (at' : Nat → Int) (ns' : List Nd) (dn' : List (Nd × Int)) (v' : Value) : Prop where
  st : St wr { M with v := v' } ns' dn'
  ext : ∃ ms, ns' = ns ++ ms ∧ ms.length ≤ k
  ai : AI ds ns' at' k
  os : wr.os = W.os
  tape : wr.tape = W.tape
  output : wr.output = W.output
  size : W.heap.size ≤ wr.heap.size
  keep : ∀ j, j < W.heap.size → ¬ M.foot j → j ≠ b + 1 → wr.heap[j]? = W.heap[j]?
  loc : ∀ g, v'.ownBlock = some g → M.v.ownBlock = some g ∨ W.heap.size ≤ g
  arr : ∀ j, j < k → wr.cell? ⟨b + 1, j, none⟩ = some (.int .i64 (at' j))
  has : ∀ j, j < n → ∃ u, wr.cell? ⟨b + 1, j, none⟩ = some u
  fz : ∀ j, wr.frozen? ⟨b + 1, j, none⟩ = false

/-- No block of the manager is among the new ones. -/
theorem AddR.far {W wr : World} {M : ML} {ns ds ns' : List Nd} {dn' : List (Nd × Int)} {b n k : Nat} {at' : Nat → Int} {v' : Value} (h : AddR W M ns ds b n k wr at' ns' dn' v') (hf : ∀ j, M.foot j → j < b) {j : Nat} (hj : b ≤ j) (hW : j < W.heap.size) : ¬ ({ M with v := v' } : ML).foot j := by
  rintro (e | e | e | e)
  · have := hf j (Or.inl e); omega
  · have := hf j (Or.inr (Or.inl e)); omega
  · have := hf j (Or.inr (Or.inr (Or.inl e))); omega
  · rcases h.loc j e with e' | e'
    · have := hf j (Or.inr (Or.inr (Or.inr e'))); omega
    · omega

theorem AddR.push {W wr w2 : World} {M : ML} {ns ds ns' : List Nd} {dn' : List (Nd × Int)} {b n k : Nat} {at' : Nat → Int} {v' v2 : Value} {ob : Obj} (h : AddR W M ns ds b n k wr at' ns' dn' v') (o : Ord ds) (hf : ∀ j, M.foot j → j < b) (hb : b + 1 < W.heap.size) (hk : k < ds.length) (hkn : k < n)
    (mg : Mgr w2 { M with v := v2 } (nodeS ns' (nd ds k).1 (Bd.mp at' (lo ds k)) (Bd.mp at' (Bd.hi ds k))).1 dn') (sp : Step (wr.alloc ob).drew { M with v := v' } w2 { M with v := v2 }) :
    AddR W M ns ds b n (k + 1) (w2.setCell ⟨b + 1, k, none⟩ (.int .i64 (nodeS ns' (nd ds k).1 (Bd.mp at' (lo ds k)) (Bd.mp at' (Bd.hi ds k))).2)) (fun j => if j = k then (nodeS ns' (nd ds k).1 (Bd.mp at' (lo ds k)) (Bd.mp at' (Bd.hi ds k))).2 else at' j) (nodeS ns' (nd ds k).1 (Bd.mp at' (lo ds k)) (Bd.mp at' (Bd.hi ds k))).1 dn' v2 := by
  have NR := h.ai.step o h.st.good hk
  have PU := h.ai.push o h.st.good hk NR
  generalize (nodeS ns' (nd ds k).1 (Bd.mp at' (lo ds k)) (Bd.mp at' (Bd.hi ds k))).1 = ns2 at *
  generalize (nodeS ns' (nd ds k).1 (Bd.mp at' (lo ds k)) (Bd.mp at' (Bd.hi ds k))).2 = r at *
  have hsz := sp.size
  simp at hsz
  have hwz := h.size
  obtain ⟨ms, e1, e2⟩ := h.ext
  obtain ⟨ms2, e3, e4⟩ := NR.ext
  have nf : ¬ ({ M with v := v' } : ML).foot (b + 1) := h.far hf (by omega) hb
  have keep2 : ∀ j, j < wr.heap.size → ¬ ({ M with v := v' } : ML).foot j → w2.heap[j]? = wr.heap[j]? := fun j hj hfj => (sp.keep j (by simp; omega) hfj).trans (Below.heap_alloc wr ob j hj)
  have blk : w2.heap[b + 1]? = wr.heap[b + 1]? := keep2 _ (by omega) nf
  have cel : ∀ j, w2.cell? ⟨b + 1, j, none⟩ = wr.cell? ⟨b + 1, j, none⟩ := fun j => World.cell?_of_block (a := ⟨b + 1, j, none⟩) blk
  have oth : ∀ j, j ≠ b + 1 → (w2.setCell ⟨b + 1, k, none⟩ (.int .i64 r)).heap[j]? = w2.heap[j]? := fun j hj => Below.heap_setCell _ _ _ _ hj
  have loc2 : ∀ g, v2.ownBlock = some g → M.v.ownBlock = some g ∨ W.heap.size ≤ g := by
    intro g hg
    rcases sp.loc g hg with e | e
    · exact h.loc g e
    · right; simp at e; omega
  have nf2 : ∀ j, ({ M with v := v2 } : ML).foot j → j ≠ b + 1 := by
    rintro j (e | e | e | e) rfl
    · have := hf _ (Or.inl e); omega
    · have := hf _ (Or.inr (Or.inl e)); omega
    · have := hf _ (Or.inr (Or.inr (Or.inl e))); omega
    · rcases loc2 _ e with e' | e'
      · have := hf _ (Or.inr (Or.inr (Or.inr e'))); omega
      · omega
  refine ⟨⟨mg.of_blocks fun j hj => oth j (nf2 j hj), NR.good, ?_⟩, ⟨ms ++ ms2, by rw [e3, e1, List.append_assoc], by rw [List.length_append]; omega⟩, PU, ?_, ?_, ?_, ?_, ?_, loc2, ?_, ?_, ?_⟩
  · rw [e3]; exact h.st.don.app h.st.good.ord ms2
  · exact sp.os.trans h.os
  · exact sp.tape.trans h.tape
  · exact sp.output.trans h.output
  · simp [World.setCell]; omega
  · intro j hj hfj hne
    rw [oth j hne, keep2 j (by omega) ?_, h.keep j hj hfj hne]
    rintro (e | e | e | e)
    · exact hfj (Or.inl e)
    · exact hfj (Or.inr (Or.inl e))
    · exact hfj (Or.inr (Or.inr (Or.inl e)))
    · rcases h.loc j e with e' | e'
      · exact hfj (Or.inr (Or.inr (Or.inr e')))
      · omega
  · intro j hj
    by_cases e : j = k
    · subst e
      simp only [if_true]
      obtain ⟨u, hu⟩ := h.has j hkn
      exact World.cell?_setCell_same _ _ _ ((cel j).trans hu)
    · simp only [if_neg e]
      rw [World.cell?_setCell_other _ _ _ _ (by intro e2; exact e (congrArg Addr.off e2).symm), cel j]
      exact h.arr j (by omega)
  · intro j hj
    by_cases e : j = k
    · subst e
      obtain ⟨u, hu⟩ := h.has j hkn
      exact ⟨_, World.cell?_setCell_same _ _ _ ((cel j).trans hu)⟩
    · obtain ⟨u, hu⟩ := h.has j hj
      exact ⟨u, by rw [World.cell?_setCell_other _ _ _ _ (by intro e2; exact e (congrArg Addr.off e2).symm), cel j]; exact hu⟩
  · intro j
    rw [World.frozen?_setCell]
    have : w2.frozen? ⟨b + 1, j, none⟩ = wr.frozen? ⟨b + 1, j, none⟩ := by simp only [World.frozen?, blk]
    rw [this]; exact h.fz j

end Go.Proofs.Ythhogbligfmpdaa
