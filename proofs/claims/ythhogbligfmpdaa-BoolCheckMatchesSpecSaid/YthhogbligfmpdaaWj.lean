/- What holds while the kids of a formula are built, one after another. -/
import Derived.Test.YthhogbligfmpdaaWi
set_option linter.unusedVariables false
set_option linter.unusedSimpArgs false
namespace Go.Proofs.Ythhogbligfmpdaa
open Go.RowKit Bd

/-- The references of the first k kids lie in a row of the call's own. -/
structure KI (w : World) (M : ML) (ns : List Nd) (kids : List Fm) (bx : Obj) (k : Nat) (ao : Option Addr) (cp : Nat) (G : Nat) (wr : World) (ns' : List Nd) (dn' : List (Nd × Int)) (v' : Value) (rs : List Int) : Prop where
  st : St wr { M with v := v' } ns' dn'
  step : Step w M wr { M with v := v' }
  ext : ∃ ms, ns' = ns ++ ms ∧ ms.length ≤ G
  len : rs.length = k
  refs : ∀ i, i < k → Ref ns' (rs.getD i 0) ∧ Tab ns' (rs.getD i 0) (evF (kids.getD i (.mk 0 0 [])))
  row : wr.ownsRow (w.heap.size + 1) 3 1 (.slice ao k cp) k (rs.map (Value.int .i64))
  far : ∀ g, (Value.slice ao k cp).ownBlock = some g → ¬ ({ M with v := v' } : ML).foot g
  box : wr.heap[w.heap.size]? = some bx
  bfar : ¬ ({ M with v := v' } : ML).foot w.heap.size

theorem ownsRow_of_block {w w' : World} {base e size n : Nat} {v : Value} {xs : List Value} (h : w.ownsRow base e size v n xs) (hb : ∀ g, v.ownBlock = some g → w'.heap[g]? = w.heap[g]?) : w'.ownsRow base e size v n xs := by
  refine ⟨h.1, ?_⟩
  rcases h.2 with h2 | ⟨g, cap, cur, hv, r0, hg, r⟩
  · exact Or.inl h2
  · exact Or.inr ⟨g, cap, cur, hv, r0, (hb g (by rw [hv]; rfl)).trans hg, r⟩

theorem foot_mono {w w' : World} {M M' : ML} (h : Step w M w' M') {g : Nat} (hg : g < w.heap.size) (hf : ¬ M.foot g) : ¬ M'.foot g := by
  rintro (e | e | e | e)
  · exact hf (Or.inl (e.trans h.b))
  · exact hf (Or.inr (Or.inl (e.trans h.bi)))
  · exact hf (Or.inr (Or.inr (Or.inl (e.trans h.bd))))
  · rcases h.loc g e with e' | e'
    · exact hf (Or.inr (Or.inr (Or.inr e')))
    · omega

section
variable {w : World} {M : ML} {ns : List Nd} {kids : List Fm} {bx : Obj} {k : Nat} {ao : Option Addr} {cp G : Nat} {wr : World} {ns' : List Nd} {dn' : List (Nd × Int)} {v' : Value} {rs : List Int}

theorem KI.start {dn : List (Nd × Int)} (h : St w M ns dn) (bx : Obj) : KI w M ns kids bx 0 none 0 0 (w.alloc bx) ns dn M.v [] := by
  have lt : ∀ g, M.foot g → g < w.heap.size := fun g hg => h.mgr.lt hg
  exact ⟨h.alloc bx, Step.alloc _ _ _, ⟨[], by simp, by simp⟩, rfl, fun i hi => by omega, World.ownsRow_nil _ _ _ _, fun g hg => by simp [Value.ownBlock] at hg, heap_alloc_new w bx, fun hf => absurd (lt _ hf) (by omega)⟩

theorem KI.alloc (h : KI w M ns kids bx k ao cp G wr ns' dn' v' rs) (o : Obj) : KI w M ns kids bx k ao cp G (wr.alloc o) ns' dn' v' rs :=
  ⟨h.st.alloc o, h.step.trans (Step.alloc _ _ _), h.ext, h.len, h.refs, h.row.alloc o, h.far, (Below.heap_alloc wr o _ (lt_of_some h.box)).trans h.box, h.bfar⟩

theorem KI.drew (h : KI w M ns kids bx k ao cp G wr ns' dn' v' rs) : KI w M ns kids bx k ao cp G wr.drew ns' dn' v' rs :=
  ⟨h.st.of_step fun _ _ => rfl, h.step.trans (Step.drew _ _), h.ext, h.len, h.refs, h.row.drew, h.far, h.box, h.bfar⟩

theorem KI.le (h : KI w M ns kids bx k ao cp G wr ns' dn' v' rs) {G' : Nat} (hG : G ≤ G') : KI w M ns kids bx k ao cp G' wr ns' dn' v' rs := by
  obtain ⟨ms, e, l⟩ := h.ext
  exact ⟨h.st, h.step, ⟨ms, e, by omega⟩, h.len, h.refs, h.row, h.far, h.box, h.bfar⟩

/-- The manager has gone on: all stands as before. -/
theorem KI.call (h : KI w M ns kids bx k ao cp G wr ns' dn' v' rs) {ns2 : List Nd} {dn2 : List (Nd × Int)} {v2 : Value} {w1 : World} {g : Nat} (ext : ∃ ms, ns2 = ns' ++ ms ∧ ms.length ≤ g) (st : St w1 { M with v := v2 } ns2 dn2)
    (sp : Step wr { M with v := v' } w1 { M with v := v2 }) : KI w M ns kids bx k ao cp (G + g) w1 ns2 dn2 v2 rs := by
  obtain ⟨ms, e1, l1⟩ := ext
  obtain ⟨ms0, e0, l0⟩ := h.ext
  have lt0 : ∀ g, (Value.slice ao k cp).ownBlock = some g → g < wr.heap.size := fun g hg => (h.row.lt g hg).2
  have bxlt := lt_of_some h.box
  refine ⟨st, h.step.trans sp, ⟨ms0 ++ ms, by rw [e1, e0, List.append_assoc], by rw [List.length_append]; omega⟩, h.len, ?_, ?_, ?_, ?_, ?_⟩
  · intro i hi
    have := h.refs i hi
    rw [e1]
    exact ⟨this.1.app _, this.2.app h.st.good.ord this.1⟩
  · exact ownsRow_of_block h.row fun g hg => sp.keep g (lt0 g hg) (h.far g hg)
  · exact fun g hg => foot_mono sp (lt0 g hg) (h.far g hg)
  · exact (sp.keep _ bxlt h.bfar).trans h.box
  · exact foot_mono sp bxlt h.bfar

/-- The kid's reference is appended. -/
theorem KI.push (h : KI w M ns kids bx k ao cp G wr ns' dn' v' rs) {r : Int} (hr : Ref ns' r) (ht : Tab ns' r (evF (kids.getD k (.mk 0 0 [])))) {o : Obj} {g cap : Nat} {w2 : World}
    (hown : w2.ownsRow (w.heap.size + 1) 3 1 (.slice (some ⟨g, 0, none⟩) (k + 1) cap) (k + 1) (rs.map (Value.int .i64) ++ [.int .i64 r])) (hg : (wr.alloc o).grownBy w2 (Value.slice ao k cp).ownBlock) (hat : (Value.slice ao k cp).ownBlock = some g ∨ g = wr.heap.size + 1) :
    KI w M ns kids bx (k + 1) (some ⟨g, 0, none⟩) cap G w2 ns' dn' v' (rs ++ [r]) := by
  have keep : ∀ j, j < wr.heap.size → (Value.slice ao k cp).ownBlock ≠ some j → w2.heap[j]? = wr.heap[j]? := by
    intro j hj hne
    rw [hg.block j (by simp; omega) (fun e => hne e.symm)]
    exact Below.heap_alloc wr o j hj
  have hsz := hg.size
  simp at hsz
  have hft : ∀ j, ({ M with v := v' } : ML).foot j → j < wr.heap.size := fun j hj => h.st.mgr.lt hj
  have hrow := h.row
  refine ⟨h.st.of_step fun j hj => keep j (hft j hj) (fun e => h.far j e hj), ?_, h.ext, by simp [h.len], ?_, by simpa using hown, ?_, ?_, h.bfar⟩
  · refine ⟨rfl, rfl, rfl, hg.os.trans h.step.os, hg.tape.trans h.step.tape, hg.output.trans h.step.output, Nat.le_trans h.step.size (by omega), ?_, h.step.loc⟩
    intro j hj hf
    rw [keep j (Nat.lt_of_lt_of_le hj h.step.size) ?_, h.step.keep j hj hf]
    intro e
    have := (hrow.lt j e).1
    omega
  · intro i hi
    by_cases hik : i < k
    · have := h.refs i hik
      have e : (rs ++ [r]).getD i 0 = rs.getD i 0 := by
        simp [List.getD_eq_getElem?_getD, List.getElem?_append_left (show i < rs.length by rw [h.len]; exact hik)]
      rw [e]; exact this
    · have hik' : i = k := by omega
      subst hik'
      have e : (rs ++ [r]).getD i 0 = r := by
        rw [List.getD_eq_getElem?_getD, List.getElem?_append_right (by rw [h.len]; exact Nat.le_refl _), h.len]; simp
      rw [e]; exact ⟨hr, ht⟩
  · intro j hj
    simp only [Value.ownBlock, Option.some.injEq] at hj
    subst hj
    rcases hat with e | e
    · exact h.far _ e
    · intro hf
      have := hft _ hf
      omega
  · rw [keep _ (lt_of_some h.box) (fun e => ?_), h.box]
    have := hrow.lt _ e
    omega

end
end Go.Proofs.Ythhogbligfmpdaa
