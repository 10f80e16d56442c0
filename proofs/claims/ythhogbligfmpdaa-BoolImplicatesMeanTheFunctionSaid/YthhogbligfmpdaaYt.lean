/- Implicates: what its closure finds in memory. -/
import Derived.Test.YthhogbligfmpdaaYs
import Derived.Test.YthhogbligfmpdaaYa
import Derived.Test.YthhogbligfmpdaaXs
set_option linter.unusedVariables false
set_option linter.unusedSimpArgs false
namespace Go.Proofs.Ythhogbligfmpdaa
open Go.RowKit Bd

/-- What a piece of code may turn: the blocks of F, and new ones. -/
structure FSp (w : World) (F : Nat → Prop) (w' : World) (F' : Nat → Prop) : Prop where
  os : w'.os = w.os
  tape : w'.tape = w.tape
  output : w'.output = w.output
  size : w.heap.size ≤ w'.heap.size
  keep : ∀ k, k < w.heap.size → ¬ F k → w'.heap[k]? = w.heap[k]?
  loc : ∀ k, F' k → F k ∨ w.heap.size ≤ k

theorem FSp.refl (w : World) (F : Nat → Prop) : FSp w F w F := ⟨rfl, rfl, rfl, Nat.le_refl _, fun _ _ _ => rfl, fun _ h => Or.inl h⟩
theorem FSp.trans {w w1 w2 : World} {F F1 F2 : Nat → Prop} (h : FSp w F w1 F1) (k : FSp w1 F1 w2 F2) : FSp w F w2 F2 := by
  refine ⟨k.os.trans h.os, k.tape.trans h.tape, k.output.trans h.output, Nat.le_trans h.size k.size, fun j hj hf => ?_, fun j hj => ?_⟩
  · rw [k.keep j (Nat.lt_of_lt_of_le hj h.size) (fun e => by rcases h.loc j e with x | x; exact hf x; omega)]
    exact h.keep j hj hf
  · rcases k.loc j hj with e | e
    · exact h.loc j e
    · exact Or.inr (Nat.le_trans h.size e)
theorem FSp.of_below {w w' : World} (F : Nat → Prop) (h : Below w.heap.size w w') : FSp w F w' F := ⟨h.os, h.tape, h.output, h.size, fun k hk _ => h.block k hk, fun _ h => Or.inl h⟩

/-- Lists in memory: the row, and each of them, in blocks of S. -/
structure OL (S : Nat → Prop) (w : World) (ov : Value) (ls : List (List Int)) (vals : List Value) : Prop where
  row : w.ownsRow 0 53 1 ov ls.length vals
  rs : ∀ g, ov.ownBlock = some g → S g
  each : ∀ i, i < ls.length → ∃ a cap, vals[i]? = some (.slice a (ls.getD i []).length cap) ∧ (ls.getD i [] ≠ [] → ∃ g, a = some ⟨g, 0, none⟩ ∧ S g ∧ ov.ownBlock ≠ some g ∧ ∀ j, j < (ls.getD i []).length → w.cell? ⟨g, j, none⟩ = some (.int .i64 ((ls.getD i []).getD j 0)))
  lt : ∀ k, S k → k < w.heap.size

theorem OL.nil (w : World) : OL (fun _ => False) w (.slice none 0 0) [] [] := ⟨⟨rfl, Or.inl ⟨rfl, rfl⟩⟩, fun g h => by simp [Value.ownBlock] at h, fun i hi => by simp at hi, fun k h => h.elim⟩

theorem OL.keep {S : Nat → Prop} {w w' : World} {ov : Value} {ls : List (List Int)} {vals : List Value} (h : OL S w ov ls vals) (hk : ∀ k, S k → w'.heap[k]? = w.heap[k]?) (hs : w.heap.size ≤ w'.heap.size) : OL S w' ov ls vals := by
  refine ⟨⟨h.row.1, ?_⟩, h.rs, fun i hi => ?_, fun k hk => Nat.lt_of_lt_of_le (h.lt k hk) hs⟩
  · rcases h.row.2 with h1 | ⟨g, cap, cur, hv, hT, hg, r⟩
    · exact Or.inl h1
    · exact Or.inr ⟨g, cap, cur, hv, hT, (hk g (h.rs g (by rw [hv]; rfl))).trans hg, r⟩
  · obtain ⟨a, cap, e, h1⟩ := h.each i hi
    refine ⟨a, cap, e, fun hne => ?_⟩
    obtain ⟨g, e1, e2, e3, e4⟩ := h1 hne
    exact ⟨g, e1, e2, e3, fun j hj => (World.cell?_of_block (a := ⟨g, j, none⟩) (hk g e2)).trans (e4 j hj)⟩

theorem OL.vlen {S : Nat → Prop} {w : World} {ov : Value} {ls : List (List Int)} {vals : List Value} (h : OL S w ov ls vals) : vals.length = ls.length := by have := h.row.1; omega
theorem OL.form {S : Nat → Prop} {w : World} {ov : Value} {ls : List (List Int)} {vals : List Value} (h : OL S w ov ls vals) : ∃ a cap, ov = .slice a ls.length cap := by
  rcases h.row.2 with ⟨h1, h2⟩ | ⟨g, cap, cur, h1, _⟩
  · exact ⟨none, 0, by rw [h1, h2]⟩
  · exact ⟨_, cap, h1⟩

/-- A list more: w1 is w with new blocks, w2 is w1 behind the append. -/
theorem OL.push {S : Nat → Prop} {w w1 w2 : World} {ov ov' : Value} {ls : List (List Int)} {vals : List Value} {l : List Int} {a : Option Addr} {cap gr : Nat} (h : OL S w ov ls vals) (hk : ∀ b, b < w.heap.size → w1.heap[b]? = w.heap[b]?) (hs : w.heap.size ≤ w1.heap.size)
    (hin : l ≠ [] → ∃ g, a = some ⟨g, 0, none⟩ ∧ w.heap.size ≤ g ∧ g < w1.heap.size ∧ ∀ j, j < l.length → w1.cell? ⟨g, j, none⟩ = some (.int .i64 (l.getD j 0)))
    (hgrow : w1.grownBy w2 ov.ownBlock) (hrow : w2.ownsRow 0 53 1 ov' (ls.length + 1) (vals ++ [.slice a l.length cap])) (hov : ov'.ownBlock = some gr) (hloc : ov.ownBlock = some gr ∨ w1.heap.size ≤ gr) :
    OL (fun k => S k ∨ (w.heap.size ≤ k ∧ k < w2.heap.size)) w2 ov' (ls ++ [l]) (vals ++ [.slice a l.length cap]) := by
  have hvl := h.vlen
  have own : ∀ g, ov.ownBlock = some g → g < w.heap.size := fun g hg => (h.row.lt g hg).2
  have keep2 : ∀ b, b < w1.heap.size → ov.ownBlock ≠ some b → w2.heap[b]? = w1.heap[b]? := fun b hb hne => hgrow.block b hb (fun e => hne e.symm)
  have hs2 : w1.heap.size ≤ w2.heap.size := hgrow.size
  refine ⟨by rw [List.length_append]; exact hrow, fun g hg => ?_, fun i hi => ?_, fun k hk => ?_⟩
  · rw [hov] at hg
    injection hg with hg
    subst hg
    rcases hloc with e | e
    · exact Or.inl (h.rs _ e)
    · exact Or.inr ⟨by omega, (hrow.lt gr hov).2⟩
  · by_cases hil : i < ls.length
    · obtain ⟨ai, ci, e, h1⟩ := h.each i hil
      have eg : (ls ++ [l]).getD i [] = ls.getD i [] := by rw [List.getD_eq_getElem?_getD, List.getD_eq_getElem?_getD, List.getElem?_append_left hil]
      rw [eg]
      refine ⟨ai, ci, by rw [List.getElem?_append_left (by omega)]; exact e, fun hne => ?_⟩
      obtain ⟨g, e', hS, ho, hc⟩ := h1 hne
      have hgl := h.lt g hS
      refine ⟨g, e', Or.inl hS, ?_, fun j hj => ?_⟩
      · rw [hov]
        intro x
        injection x with x
        subst x
        rcases hloc with y | y
        · exact ho y
        · omega
      · have hb := (keep2 g (by omega) ho).trans (hk g hgl)
        exact (World.cell?_of_block (a := ⟨g, j, none⟩) hb).trans (hc j hj)
    · have hi' : i = ls.length := by simp at hi; omega
      subst hi'
      have eg : (ls ++ [l]).getD ls.length [] = l := by rw [List.getD_eq_getElem?_getD, List.getElem?_append_right (Nat.le_refl _)]; simp
      rw [eg]
      refine ⟨a, cap, by rw [List.getElem?_append_right (by omega), hvl]; simp, fun hne => ?_⟩
      obtain ⟨g, e', hg, hgl, hc⟩ := hin hne
      refine ⟨g, e', Or.inr ⟨hg, by omega⟩, ?_, fun j hj => ?_⟩
      · rw [hov]
        intro x
        injection x with x
        subst x
        rcases hloc with y | y
        · have := own _ y; omega
        · omega
      · have hne' : ov.ownBlock ≠ some g := fun y => by have := own _ y; omega
        exact (World.cell?_of_block (a := ⟨g, j, none⟩) (keep2 g hgl hne')).trans (hc j hj)
  · rcases hk with e | e
    · have := h.lt k e; omega
    · exact e.2

/-- As a plain reading. -/
theorem OL.lAt {S : Nat → Prop} {w : World} {a : Option Addr} {n cap : Nat} {ls : List (List Int)} {vals : List Value} (h : OL S w (.slice a n cap) ls vals) : LAt w ls a ∧ n = ls.length := by
  rcases h.row.2 with ⟨h1, h2⟩ | ⟨g, cap', cur, hv, _⟩
  · have : ls = [] := List.length_eq_zero_iff.1 h2
    subst this
    injection h1 with e1 e2 e3
    exact ⟨lAt_nil _ _, e2⟩
  · have hr := h.row
    rw [hv] at hr
    injection hv with e1 e2 e3
    subst e1
    refine ⟨fun hne => ⟨g, 0, rfl, fun i hi => ?_⟩, e2⟩
    obtain ⟨ai, ci, h1, h2⟩ := h.each i hi
    refine ⟨ai, ci, ?_, fun hn => ?_⟩
    · rw [Nat.zero_add, hr.cellAt i (by omega)]; exact h1
    · obtain ⟨g', e', _, _, hc⟩ := h2 hn
      exact ⟨g', 0, e', fun j hj => by rw [Nat.zero_add]; exact hc j hj⟩

/-- Where the variables of Implicates lie. -/
structure TB where
  bv : Nat
  bt : Nat
  bm : Nat
  br : Nat
  bo : Nat

def TB.caps (B : TB) : Array Value := #[.pointer (some ⟨B.bv, 0, none⟩), .pointer (some ⟨B.bt, 0, none⟩), .pointer (some ⟨B.bm, 0, none⟩), .pointer (some ⟨B.br, 0, none⟩), .pointer (some ⟨B.bo, 0, none⟩)]
/-- The blocks that stay: the variables but out, and the list of variables. -/
def TB.fx (B : TB) (vs : List Int) (va : Option Addr) (k : Nat) : Prop := k = B.bv ∨ k = B.bt ∨ k = B.bm ∨ k = B.br ∨ (vs ≠ [] ∧ ∃ o, va = some ⟨k, o, none⟩)
def Fo (M : ML) (S : Nat → Prop) (bo : Nat) (k : Nat) : Prop := M.foot k ∨ S k ∨ k = bo

structure TS (B : TB) (T : List Bool) (vs : List Int) (va : Option Addr) (vc : Nat) (root : Int) (w : World) (M : ML) (ns : List Nd) (dn : List (Nd × Int)) (S : Nat → Prop) (ov : Value) (ls : List (List Int)) : Prop where
  cv : w.heap[B.bv]? = some (.cells #[.slice va vs.length vc] 53 (0, 0))
  ct : w.heap[B.bt]? = some (.cells #[.func (.func 72) #[] B.caps] 94 (0, 0))
  cm : w.heap[B.bm]? = some (.cells #[.pointer (some ⟨M.b, 0, none⟩)] 64 (0, 0))
  cr : w.heap[B.br]? = some (.cells #[.int .i64 root] 3 (0, 0))
  co : w.heap[B.bo]? = some (.cells #[ov] 44 (0, 0))
  vi : IAt w vs va
  vl : vs ≠ [] → ∀ k o, va = some ⟨k, o, none⟩ → k < w.heap.size
  st : St w M ns dn
  rf : Ref ns root
  tb : Tab ns root (fnT T)
  out : ∃ vals, OL S w ov ls vals
  far : ∀ k, B.fx vs va k → ¬ Fo M S B.bo k
  fo : ¬ M.foot B.bo ∧ ¬ S B.bo
  fs : ∀ k, S k → ¬ M.foot k

section
variable {B : TB} {T : List Bool} {vs : List Int} {va : Option Addr} {vc : Nat} {root : Int} {w w' : World} {M M' : ML} {ns ns' : List Nd} {dn dn' : List (Nd × Int)} {S : Nat → Prop} {ov : Value} {ls : List (List Int)}

theorem TS.lt (h : TS B T vs va vc root w M ns dn S ov ls) {k : Nat} (hk : B.fx vs va k) : k < w.heap.size := by
  rcases hk with e | e | e | e | ⟨hne, o, e⟩
  · rw [e]; exact lt_of_some h.cv
  · rw [e]; exact lt_of_some h.ct
  · rw [e]; exact lt_of_some h.cm
  · rw [e]; exact lt_of_some h.cr
  · exact h.vl hne k o e
theorem TS.folt (h : TS B T vs va vc root w M ns dn S ov ls) {k : Nat} (hk : Fo M S B.bo k) : k < w.heap.size := by
  obtain ⟨vals, ol⟩ := h.out
  rcases hk with e | e | e
  · exact h.st.mgr.lt e
  · exact ol.lt k e
  · rw [e]; exact lt_of_some h.co

theorem IAt.blk {l : List Int} {a : Option Addr} (h : IAt w l a) (hk : l ≠ [] → ∀ k o, a = some ⟨k, o, none⟩ → w'.heap[k]? = w.heap[k]?) : IAt w' l a := by
  intro hne
  obtain ⟨b, o, e, hc⟩ := h hne
  exact ⟨b, o, e, fun i hi => (World.cell?_of_block (a := ⟨b, o + i, none⟩) (hk hne b o e)).trans (hc i hi)⟩

/-- A step of the manager. -/
theorem TS.step (h : TS B T vs va vc root w M ns dn S ov ls) (st : St w' M' ns' dn') (s : Step w M w' M') {ms : List Nd} (e : ns' = ns ++ ms) : TS B T vs va vc root w' M' ns' dn' S ov ls ∧ FSp w (Fo M S B.bo) w' (Fo M' S B.bo) := by
  subst e
  have ft : ∀ k, M'.foot k → M.foot k ∨ w.heap.size ≤ k := fun k hk => (s.fst (bm := 0)).foot hk
  have kp : ∀ k, B.fx vs va k → w'.heap[k]? = w.heap[k]? := fun k hk => s.keep k (h.lt hk) (fun e => h.far k hk (Or.inl e))
  obtain ⟨vals, ol⟩ := h.out
  refine ⟨⟨(kp _ (Or.inl rfl)).trans h.cv, (kp _ (Or.inr (Or.inl rfl))).trans h.ct, by rw [s.b]; exact (kp _ (Or.inr (Or.inr (Or.inl rfl)))).trans h.cm, (kp _ (Or.inr (Or.inr (Or.inr (Or.inl rfl))))).trans h.cr, (s.keep _ (lt_of_some h.co) h.fo.1).trans h.co,
    h.vi.blk fun hne k o e => kp k (Or.inr (Or.inr (Or.inr (Or.inr ⟨hne, o, e⟩)))), fun hne k o e => Nat.lt_of_lt_of_le (h.vl hne k o e) s.size, st, h.rf.app _, h.tb.app h.st.good.ord h.rf, ⟨vals, ol.keep (fun k hk => s.keep k (ol.lt k hk) (h.fs k hk)) s.size⟩, fun k hk hf => ?_, ⟨fun e => ?_, h.fo.2⟩, fun k hk hf => ?_⟩, ⟨s.os, s.tape, s.output, s.size, fun k hk hf => s.keep k hk (fun e => hf (Or.inl e)), fun k hk => ?_⟩⟩
  · rcases hf with e | e | e
    · rcases ft k e with x | x
      · exact h.far k hk (Or.inl x)
      · have := h.lt hk; omega
    · exact h.far k hk (Or.inr (Or.inl e))
    · exact h.far k hk (Or.inr (Or.inr e))
  · rcases ft _ e with x | x
    · exact h.fo.1 x
    · have := lt_of_some h.co; omega
  · rcases ft k hf with x | x
    · exact h.fs k hk x
    · have := ol.lt k hk; omega
  · rcases hk with e | e | e
    · rcases ft k e with x | x
      · exact Or.inl (Or.inl x)
      · exact Or.inr x
    · exact Or.inl (Or.inr (Or.inl e))
    · exact Or.inl (Or.inr (Or.inr e))

/-- New memory alone. -/
theorem TS.below (h : TS B T vs va vc root w M ns dn S ov ls) (hb : Below w.heap.size w w') : TS B T vs va vc root w' M ns dn S ov ls ∧ FSp w (Fo M S B.bo) w' (Fo M S B.bo) :=
  h.step (ms := []) (h.st.below hb) (Step.of_below M hb) (by simp)

/-- 'out = append(out, l)': w1 behind the clone and the laid element, w2 behind the append; then the store. -/
theorem TS.push {w1 w2 : World} {ov' : Value} {l : List Int} {a : Option Addr} {cc gr : Nat} {vals : List Value} (h : TS B T vs va vc root w M ns dn S ov ls) (hv : OL S w ov ls vals) (hb : Below w.heap.size w w1)
    (hin : l ≠ [] → ∃ g, a = some ⟨g, 0, none⟩ ∧ w.heap.size ≤ g ∧ g < w1.heap.size ∧ ∀ j, j < l.length → w1.cell? ⟨g, j, none⟩ = some (.int .i64 (l.getD j 0)))
    (hgrow : w1.grownBy w2 ov.ownBlock) (hrow : w2.ownsRow 0 53 1 ov' (ls.length + 1) (vals ++ [.slice a l.length cc])) (hov : ov'.ownBlock = some gr) (hloc : ov.ownBlock = some gr ∨ w1.heap.size ≤ gr) :
    ∃ S', TS B T vs va vc root (w2.setCell ⟨B.bo, 0, none⟩ ov') M ns dn S' ov' (ls ++ [l]) ∧ FSp w (Fo M S B.bo) (w2.setCell ⟨B.bo, 0, none⟩ ov') (Fo M S' B.bo) := by
  have hs := hb.size
  have hs2 : w1.heap.size ≤ w2.heap.size := hgrow.size
  have se : (w2.setCell ⟨B.bo, 0, none⟩ ov').heap.size = w2.heap.size := by simp [World.setCell]
  have P := hv.push (fun b h => hb.block b h) hs hin hgrow hrow hov hloc
  have k2 : ∀ b, b < w.heap.size → ¬ S b → w2.heap[b]? = w.heap[b]? := fun b hl hne => (hgrow.block b (by omega) (fun e => hne (hv.rs b e.symm))).trans (hb.block b hl)
  have kp : ∀ b, b < w.heap.size → ¬ S b → b ≠ B.bo → (w2.setCell ⟨B.bo, 0, none⟩ ov').heap[b]? = w.heap[b]? := fun b hl hne h2 => by
    rw [Below.heap_setCell _ _ _ _ h2]
    exact k2 b hl hne
  have kf : ∀ b, B.fx vs va b → (w2.setCell ⟨B.bo, 0, none⟩ ov').heap[b]? = w.heap[b]? := fun b hf => kp b (h.lt hf) (fun e => h.far b hf (Or.inr (Or.inl e))) (fun e => h.far b hf (Or.inr (Or.inr e)))
  have lbo := lt_of_some h.co
  refine ⟨fun k => S k ∨ (w.heap.size ≤ k ∧ k < w2.heap.size), ⟨(kf _ (Or.inl rfl)).trans h.cv, (kf _ (Or.inr (Or.inl rfl))).trans h.ct, (kf _ (Or.inr (Or.inr (Or.inl rfl)))).trans h.cm, (kf _ (Or.inr (Or.inr (Or.inr (Or.inl rfl))))).trans h.cr, ?_,
    h.vi.blk fun hne k o e => kf k (Or.inr (Or.inr (Or.inr (Or.inr ⟨hne, o, e⟩)))), fun hne k o e => by have := h.vl hne k o e; omega, h.st.of_step fun k hk => kp k (h.st.mgr.lt hk) (fun e => h.fs k e hk) (fun e => h.fo.1 (e ▸ hk)), h.rf, h.tb,
    ⟨_, P.keep (fun k hk => Below.heap_setCell _ _ _ _ (fun e => ?_)) (by omega)⟩, fun k hk hf => ?_, ⟨h.fo.1, ?_⟩, fun k hk hf => ?_⟩, ⟨hgrow.os.trans hb.os, hgrow.tape.trans hb.tape, hgrow.output.trans hb.output, by omega, fun k hk hf => kp k hk (fun e => hf (Or.inr (Or.inl e))) (fun e => hf (Or.inr (Or.inr e))), fun k hk => ?_⟩⟩
  · have e := (k2 B.bo lbo h.fo.2).trans h.co
    have hlt := lt_of_some e
    simp [World.setCell, Array.getElem?_modify, e]
  · have e : k = B.bo := e
    subst e
    rcases hk with x | x
    · exact h.fo.2 x
    · omega
  · rcases hf with e | (e | e) | e
    · exact h.far k hk (Or.inl e)
    · exact h.far k hk (Or.inr (Or.inl e))
    · have := h.lt hk; omega
    · exact h.far k hk (Or.inr (Or.inr e))
  · rintro (e | e)
    · exact h.fo.2 e
    · omega
  · rcases hk with e | e
    · exact h.fs k e hf
    · have := h.st.mgr.lt hf; omega
  · rcases hk with e | (e | e) | e
    · exact Or.inl (Or.inl e)
    · exact Or.inl (Or.inr (Or.inl e))
    · exact Or.inr e.1
    · exact Or.inl (Or.inr (Or.inr e))

theorem TS.reads (h : TS B T vs va vc root w M ns dn S ov ls) : w.cell? ⟨B.bv, 0, none⟩ = some (.slice va vs.length vc) ∧ w.cell? ⟨B.bt, 0, none⟩ = some (.func (.func 72) #[] B.caps) ∧ w.cell? ⟨B.bm, 0, none⟩ = some (.pointer (some ⟨M.b, 0, none⟩)) ∧ w.cell? ⟨B.br, 0, none⟩ = some (.int .i64 root) ∧ w.cell? ⟨B.bo, 0, none⟩ = some ov :=
  ⟨by simp [World.cell?, h.cv], by simp [World.cell?, h.ct], by simp [World.cell?, h.cm], by simp [World.cell?, h.cr], by simp [World.cell?, h.co]⟩
end

/-- A clause that lies apart from what is turned. -/
structure CF (w : World) (F : Nat → Prop) (cl : List Int) (v : Value) : Prop where
  at_ : CAt w cl v
  far : ∀ g, v.ownBlock = some g → g < w.heap.size ∧ ¬ F g
theorem CF.step {w w' : World} {F F' : Nat → Prop} {cl : List Int} {v : Value} (h : CF w F cl v) (s : FSp w F w' F') : CF w' F' cl v := by
  refine ⟨?_, fun g hg => ?_⟩
  · rcases h.at_ with e | ⟨g, cap, e, hc⟩
    · exact Or.inl e
    · have f := h.far g (by rw [e]; rfl)
      exact Or.inr ⟨g, cap, e, fun j hj => (World.cell?_of_block (a := ⟨g, j, none⟩) (s.keep g f.1 f.2)).trans (hc j hj)⟩
  · have f := h.far g hg
    refine ⟨Nat.lt_of_lt_of_le f.1 s.size, fun e => ?_⟩
    rcases s.loc g e with x | x
    · exact f.2 x
    · omega
theorem CF.nil (w : World) (F : Nat → Prop) : CF w F [] (.slice none 0 0) := ⟨Or.inl ⟨rfl, rfl⟩, fun g h => by simp [Value.ownBlock] at h⟩
theorem CF.form {w : World} {F : Nat → Prop} {cl : List Int} {v : Value} (h : CF w F cl v) : ∃ a cap, v = .slice a cl.length cap ∧ IAt w cl a ∧ (cl ≠ [] → ∀ b o, a = some ⟨b, o, none⟩ → b < w.heap.size ∧ ¬ F b) := by
  rcases h.at_ with ⟨rfl, rfl⟩ | ⟨g, cap, rfl, hc⟩
  · exact ⟨none, 0, rfl, iAt_nil _ _, fun h => absurd rfl h⟩
  · refine ⟨some ⟨g, 0, none⟩, cap, rfl, fun hne => ⟨g, 0, rfl, fun i hi => by rw [Nat.zero_add]; exact hc i hi⟩, fun hne b o e => ?_⟩
    injection e with e
    injection e with e1 e2
    subst e1
    exact h.far g rfl

/-- slices.Delete of one element of a row of one's own. -/
theorem delete_own {w : World} {T n lc g k : Nat} {zs : List Int} (h : w.ownsRow T 3 1 (.slice (some ⟨g, 0, none⟩) n lc) n (zs.map (Value.int .i64))) (hl : n ≤ 1000000) (hT : T ≤ w.heap.size) (hk : k < n) :
    Calls Try.prog 74 #[.slice (some ⟨g, 0, none⟩) n lc, .int .i64 k, .int .i64 ((k : Int) + 1)] w fun e w' => e = .returned (.slice (some ⟨g, 0, none⟩) (zs.eraseIdx k).length lc) ∧ IAt w' (zs.eraseIdx k) (some ⟨g, 0, none⟩) ∧ T ≤ g ∧ Below T w w' := by
  have hz : zs.length = n := by have := h.1; simpa using this
  rcases h.2 with ⟨h1, h2⟩ | ⟨g', cap, cur, h1, h2, h3, h4, h5, h6, h7⟩
  · simp at h1
  · injection h1 with e1 e2 e3
    injection e1 with e1
    injection e1 with e1
    subst e1 e3 hz
    have hm : lc ≤ 9223372036854775807 := by unfold maxLen at h5; omega
    have he : zs.eraseIdx k = zs.take k ++ zs.drop (k + 1) := List.eraseIdx_eq_take_drop_succ zs k
    have hel : (zs.eraseIdx k).length = zs.length - 1 := by rw [List.length_eraseIdx, if_pos hk]
    have D := Try.slices_Delete_int g 0 lc k (k + 1) zs w (holds_of_blockI h3 (by simpa using h7)) h4 hm (by omega) (by omega)
    rw [show (((k + 1 : Nat) : Int)) = (k : Int) + 1 from by omega] at D
    refine D.mono ?_
    rintro e w' ⟨rfl, q, hw⟩
    have hlen : (zs.take k ++ zs.drop (k + 1) ++ List.replicate (k + 1 - k) 0).length = zs.length := by simp; omega
    have gb := grownBy_sortedI (w := w) (g := g) (n := q) (os := #[]) (zs.take k ++ zs.drop (k + 1) ++ List.replicate (k + 1 - k) 0).toArray
    have ow := ownsRow_sortedI (n := q) (os := #[]) hlen h2 h3 h4 h5 h6
    rw [grow_nil, ← hw] at gb ow
    refine ⟨by rw [hel, show k + 1 - k = 1 from by omega], fun hne => ⟨g, 0, rfl, fun i hi => ?_⟩, h2, gb.os, gb.tape, gb.output, gb.size, fun b hb => gb.block b (by omega) (fun e => ?_)⟩
    · have := ow.cellAt i (by omega)
      rw [Nat.zero_add, this, List.getElem?_map, List.getElem?_append_left (by rw [← he]; exact hi), ← he, List.getElem?_eq_getElem hi, List.getD_eq_getElem?_getD, List.getElem?_eq_getElem hi]
      rfl
    · injection e with e
      omega

end Go.Proofs.Ythhogbligfmpdaa
