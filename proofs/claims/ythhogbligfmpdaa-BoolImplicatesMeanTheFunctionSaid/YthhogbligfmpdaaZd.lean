/- clauseOf: the formula of a clause. -/
import Derived.Test.YthhogbligfmpdaaZc
import Derived.Test.YthhogbligfmpdaaXj
import Derived.Test.YthhogbligfmpdaaPu
set_option linter.unusedVariables false
set_option linter.unusedSimpArgs false
namespace Go.Proofs.Ythhogbligfmpdaa
open Go.RowKit Bd

def litF (l : Int) : Fm := if 0 < l then .mk 1 (l - 1) [] else .mk 3 0 [.mk 1 (-l - 1) []]
def clF (cl : List Int) : Fm := .mk 5 0 (cl.map litF)

theorem info24 : (Try.prog.info? 24).map (fun i => (i.zero, i.size, i.bytes)) = some (some (.agg #[.int .i64 0, .int .i64 0, .slice none 0 0]), 3, 40) := by kernel_rfl

/-- What a literal's node holds beside its own cells. -/
def KdAt (w : World) (T : Nat) (ov : Value) (l : Int) (a : Option Addr) : Prop := ¬ 0 < l → ∃ g, a = some ⟨g, 0, none⟩ ∧ T ≤ g ∧ ov.ownBlock ≠ some g ∧ w.heap[g]? = some (.cells #[.int .i64 1, .int .i64 (-l - 1), .slice none 0 0] 24 (0, 0))
/-- The nodes of literals. -/
structure KsAt (w : World) (T : Nat) (ov : Value) (ls : List Int) (cs : List Value) : Prop where
  row : w.ownsRow T 24 3 ov ls.length cs
  each : ∀ i, i < ls.length → ∃ a c, cs[i * 3]? = some (.int .i64 (litF (ls.getD i 0)).op) ∧ cs[i * 3 + 1]? = some (.int .i64 (litF (ls.getD i 0)).var) ∧ cs[i * 3 + 2]? = some (.slice a (litF (ls.getD i 0)).kids.length c) ∧ KdAt w T ov (ls.getD i 0) a

theorem KsAt.nil (w : World) (T : Nat) : KsAt w T (.slice none 0 0) [] [] := ⟨⟨rfl, Or.inl ⟨rfl, rfl⟩⟩, fun i hi => by simp at hi⟩

/-- A node more: w1 is w with new blocks, w2 is w1 behind the append. -/
theorem KsAt.push {w w1 w2 : World} {T : Nat} {ov : Value} {ls : List Int} {cs : List Value} {l : Int} {a : Option Addr} {c gr cap : Nat} (h : KsAt w T ov ls cs) (hk : ∀ b, b < w.heap.size → w1.heap[b]? = w.heap[b]?) (hs : w.heap.size ≤ w1.heap.size) (hT : T ≤ w.heap.size)
    (hin : ¬ 0 < l → ∃ g, a = some ⟨g, 0, none⟩ ∧ w.heap.size ≤ g ∧ g < w1.heap.size ∧ w1.heap[g]? = some (.cells #[.int .i64 1, .int .i64 (-l - 1), .slice none 0 0] 24 (0, 0)))
    (hgrow : w1.grownBy w2 ov.ownBlock) (hrow : w2.ownsRow T 24 3 (.slice (some ⟨gr, 0, none⟩) (ls.length + 1) cap) (ls.length + 1) (cs ++ [.int .i64 (litF l).op, .int .i64 (litF l).var, .slice a (litF l).kids.length c])) (hloc : ov.ownBlock = some gr ∨ gr = w1.heap.size) :
    KsAt w2 T (.slice (some ⟨gr, 0, none⟩) (ls.length + 1) cap) (ls ++ [l]) (cs ++ [.int .i64 (litF l).op, .int .i64 (litF l).var, .slice a (litF l).kids.length c]) := by
  have hcl : cs.length = ls.length * 3 := h.row.1
  have own : ∀ g, ov.ownBlock = some g → g < w.heap.size := fun g hg => (h.row.lt g hg).2
  refine ⟨by rw [List.length_append]; exact hrow, fun i hi => ?_⟩
  have ob : ∀ g, g ≠ gr → (Value.slice (some (⟨gr, 0, none⟩ : Addr)) (ls.length + 1) cap).ownBlock ≠ some g := fun g hg e => by
    have : gr = g := by injection e
    exact hg this.symm
  by_cases hil : i < ls.length
  · obtain ⟨ai, ci, e1, e2, e3, e4⟩ := h.each i hil
    have eg : (ls ++ [l]).getD i 0 = ls.getD i 0 := by rw [List.getD_eq_getElem?_getD, List.getD_eq_getElem?_getD, List.getElem?_append_left hil]
    rw [eg]
    refine ⟨ai, ci, by rw [List.getElem?_append_left (by omega)]; exact e1, by rw [List.getElem?_append_left (by omega)]; exact e2, by rw [List.getElem?_append_left (by omega)]; exact e3, fun hn => ?_⟩
    obtain ⟨g, f1, f2, f3, f4⟩ := e4 hn
    have hgl := lt_of_some f4
    refine ⟨g, f1, f2, ob g (fun e => ?_), ?_⟩
    · subst e
      rcases hloc with y | y
      · exact f3 y
      · omega
    · rw [hgrow.block g (by omega) (fun e => f3 e.symm), hk g hgl]; exact f4
  · obtain rfl : i = ls.length := by simp at hi; omega
    have eg : (ls ++ [l]).getD ls.length 0 = l := by rw [List.getD_eq_getElem?_getD, List.getElem?_append_right (Nat.le_refl _)]; simp
    rw [eg]
    refine ⟨a, c, by rw [List.getElem?_append_right (by omega), hcl, Nat.sub_self]; rfl, by rw [List.getElem?_append_right (by omega), hcl, show ls.length * 3 + 1 - ls.length * 3 = 1 from by omega]; rfl, by rw [List.getElem?_append_right (by omega), hcl, show ls.length * 3 + 2 - ls.length * 3 = 2 from by omega]; rfl, fun hn => ?_⟩
    obtain ⟨g, f1, f2, f3, f4⟩ := hin hn
    refine ⟨g, f1, by omega, ob g (fun e => ?_), ?_⟩
    · subst e
      rcases hloc with y | y
      · have := own _ y; omega
      · omega
    · rw [hgrow.block g f3 (fun e => by have := own g e.symm; omega)]; exact f4

theorem KsAt.keep {w w' : World} {T : Nat} {ov : Value} {ls : List Int} {cs : List Value} (h : KsAt w T ov ls cs) (hk : ∀ b, T ≤ b → b < w.heap.size → w'.heap[b]? = w.heap[b]?) : KsAt w' T ov ls cs := by
  refine ⟨⟨h.row.1, ?_⟩, fun i hi => ?_⟩
  · rcases h.row.2 with h1 | ⟨g, cap, cur, hv, hT, hg, r⟩
    · exact Or.inl h1
    · exact Or.inr ⟨g, cap, cur, hv, hT, (hk g hT (lt_of_some hg)).trans hg, r⟩
  · obtain ⟨a, c, e1, e2, e3, e4⟩ := h.each i hi
    refine ⟨a, c, e1, e2, e3, fun hn => ?_⟩
    obtain ⟨g, f1, f2, f3, f4⟩ := e4 hn
    exact ⟨g, f1, f2, f3, (hk g f2 (lt_of_some f4)).trans f4⟩

theorem fmAt_one {w : World} {g : Nat} {v : Int} (op var : Int) (h : w.heap[g]? = some (.cells #[.int .i64 1, .int .i64 v, .slice none 0 0] 24 (0, 0))) : FmAt w (.mk op var [.mk 1 v []]) (some ⟨g, 0, none⟩) := by
  refine .mk op var _ _ (fun _ => none) (fun _ => 0) (by simp) (fun _ => ⟨g, 0, rfl, fun i hi => ?_⟩) (fun i hi => ?_)
  · have : i = 0 := by simp at hi; omega
    subst this
    simp [World.cell?, h, Fm.op, Fm.var, Fm.kids]
  · have : i = 0 := by simp at hi; omega
    subst this
    exact fmAt_leaf _ _ _ _

theorem KsAt.fm {w : World} {T : Nat} {a : Option Addr} {n c : Nat} {ls : List Int} {cs : List Value} (h : KsAt w T (.slice a n c) ls cs) (hl : ls.length ≤ 1000) : FmAt w (clF ls) a ∧ n = ls.length := by
  have ex : ∀ i, ∃ p : Option Addr × Nat, i < ls.length → cs[i * 3]? = some (.int .i64 (litF (ls.getD i 0)).op) ∧ cs[i * 3 + 1]? = some (.int .i64 (litF (ls.getD i 0)).var) ∧ cs[i * 3 + 2]? = some (.slice p.1 (litF (ls.getD i 0)).kids.length p.2) ∧ KdAt w T (.slice a n c) (ls.getD i 0) p.1 := by
    intro i
    by_cases hi : i < ls.length
    · obtain ⟨a, c, e⟩ := h.each i hi
      exact ⟨(a, c), fun _ => e⟩
    · exact ⟨(none, 0), fun h => absurd h hi⟩
  obtain ⟨f, hf⟩ := Classical.axiomOfChoice ex
  have gm : ∀ i (hi : i < (ls.map litF).length), (ls.map litF)[i] = litF (ls.getD i 0) := fun i hi => by
    have hi' : i < ls.length := by simpa using hi
    rw [List.getElem_map, List.getD_eq_getElem?_getD, List.getElem?_eq_getElem hi']; rfl
  have hform : n = ls.length ∧ (ls ≠ [] → ∃ g, a = some ⟨g, 0, none⟩ ∧ ∀ j, j < ls.length * 3 → w.cell? ⟨g, j, none⟩ = cs[j]?) := by
    rcases h.row.2 with ⟨h1, h2⟩ | ⟨g, cap', cur, hv, _⟩
    · have : ls = [] := List.length_eq_zero_iff.1 h2
      injection h1 with e1 e2 e3
      exact ⟨by rw [e2, h2], fun hne => absurd this hne⟩
    · have hr := h.row
      rw [hv] at hr
      injection hv with e1 e2 e3
      exact ⟨e2, fun _ => ⟨g, e1, fun j hj => hr.cellAt j (by omega)⟩⟩
  refine ⟨.mk 5 0 _ a (fun i => (f i).1) (fun i => (f i).2) (by simp; omega) (fun hne => ?_) (fun i hi => ?_), hform.1⟩
  · obtain ⟨g, e, hc⟩ := hform.2 (fun x => hne (by rw [x]; rfl))
    refine ⟨g, 0, e, fun i hi => ?_⟩
    have hi' : i < ls.length := by simpa using hi
    obtain ⟨q1, q2, q3, _⟩ := hf i hi'
    rw [gm i hi, Nat.zero_add, hc _ (by omega), hc _ (by omega), hc _ (by omega)]
    exact ⟨q1, q2, q3⟩
  · have hi' : i < ls.length := by simpa using hi
    obtain ⟨_, _, _, q4⟩ := hf i hi'
    rw [gm i hi]
    by_cases hp : 0 < ls.getD i 0
    · unfold litF; rw [if_pos hp]; exact fmAt_leaf _ _ _ _
    · obtain ⟨g, f1, _, _, f4⟩ := q4 hp
      unfold litF; rw [if_neg hp, f1]
      exact fmAt_one 3 0 f4

/-- What clauseOf comes to. -/
def CofPost (w : World) (cl : List Int) (e : Ending) (w' : World) : Prop :=
  ∃ a cap, e = .returned (.agg #[.int .i64 5, .int .i64 0, .slice a cl.length cap]) ∧ FmAt w' (clF cl) a ∧ Below w.heap.size w w'
def CofL (cl : List Int) (n : Nat) (w : World) (iv : Value) (wr : World) : Prop :=
  ∃ (k : Nat) (ov : Value) (cs : List Value), k ≤ n ∧ iv = .int .i64 k ∧ wr.heap[w.heap.size]? = some (.cells #[.int .i64 0, .int .i64 0, .slice none 0 0] 24 (0, 0)) ∧ wr.heap[w.heap.size + 1]? = some (.cells #[.int .i64 5, .int .i64 0, ov] 24 (0, 0)) ∧ KsAt wr (w.heap.size + 2) ov (cl.take k) cs ∧ Below w.heap.size w wr ∧ w.heap.size + 2 ≤ wr.heap.size

theorem co_next {w wr w1 w5 : World} {cl : List Int} {n k g5 cap5 : Nat} {ov : Value} {cs' : List Value} {l : Int} (hk : k < n) (ts : cl.take (k + 1) = cl.take k ++ [l])
    (b0 : wr.heap[w.heap.size]? = some (.cells #[.int .i64 0, .int .i64 0, .slice none 0 0] 24 (0, 0))) (b1 : wr.heap[w.heap.size + 1]? = some (.cells #[.int .i64 5, .int .i64 0, ov] 24 (0, 0))) (bl : Below w.heap.size w wr) (sz : w.heap.size + 2 ≤ wr.heap.size)
    (hb1 : Below wr.heap.size wr w1) (gr : w1.grownBy w5 ov.ownBlock) (ow : ∀ g, ov.ownBlock = some g → w.heap.size + 2 ≤ g) (kp : KsAt w5 (w.heap.size + 2) (.slice (some ⟨g5, 0, none⟩) (k + 1) cap5) (cl.take k ++ [l]) cs') :
    CofL cl n w (.int .i64 ((k : Int) + 1)) (w5.setCell ⟨w.heap.size + 1, 2, none⟩ (.slice (some ⟨g5, 0, none⟩) (k + 1) cap5)) := by
  have s1 := hb1.size
  have s2 := gr.size
  have kp5 : ∀ b, b < w.heap.size + 2 → w5.heap[b]? = wr.heap[b]? := fun b hb => (gr.block b (by omega) (fun e => by have := ow b e.symm; omega)).trans (hb1.block b (by omega))
  have se : (w5.setCell ⟨w.heap.size + 1, 2, none⟩ (.slice (some ⟨g5, 0, none⟩) (k + 1) cap5)).heap.size = w5.heap.size := by simp [World.setCell]
  have ot : ∀ b, b ≠ w.heap.size + 1 → (w5.setCell ⟨w.heap.size + 1, 2, none⟩ (.slice (some ⟨g5, 0, none⟩) (k + 1) cap5)).heap[b]? = w5.heap[b]? := fun b hb => Below.heap_setCell _ _ _ _ hb
  refine ⟨k + 1, .slice (some ⟨g5, 0, none⟩) (k + 1) cap5, cs', by omega, by go_num, ?_, ?_, ?_, ?_, by omega⟩
  · rw [ot _ (by omega), kp5 _ (by omega)]; exact b0
  · have e := (kp5 (w.heap.size + 1) (by omega)).trans b1
    simp [World.setCell, Array.getElem?_modify, e]
  · rw [ts]
    exact kp.keep fun b hT _ => ot b (by omega)
  · refine ⟨gr.os.trans (hb1.os.trans bl.os), gr.tape.trans (hb1.tape.trans bl.tape), gr.output.trans (hb1.output.trans bl.output), by have := bl.size; omega, fun b hb => ?_⟩
    rw [ot b (by omega), kp5 b (by omega)]
    exact bl.block b hb

set_option maxRecDepth 100000 in
set_option maxHeartbeats 4000000 in
theorem clauseOf_any {w : World} {cl : List Int} {a : Option Addr} {n c : Nat} (h : IAt w cl a) (hn : cl.length = n) (h16 : n ≤ 16) (hb : ∀ l ∈ cl, Bd.Lit l) :
    Calls Try.prog 40 #[.slice a n c] w (CofPost w cl) := by
  have H := Lib.hid h; clear h
  have HN := Lib.hid hn; clear hn
  have HB := Lib.hid hb; clear hb
  obtain ⟨i0, hi0, hz0, hz1, hz2⟩ := info_parts info24
  obtain ⟨x1, x2, x3, x4⟩ := two_new w (.cells #[.int .i64 0, .int .i64 0, .slice none 0 0] 24) (.cells #[.int .i64 5, .int .i64 0, .slice none 0 0] 24) _ rfl
  have X1 := Lib.hid x1; clear x1
  have X2 := Lib.hid x2; clear x2
  have X3 := Lib.hid x3; clear x3
  have X4 := Lib.hid x4; clear x4
  go_enter Try.func40, Try.ntmps40
  go_wp2_with fail
  generalize (w.alloc (.cells #[.int .i64 0, .int .i64 0, .slice none 0 0] 24)).alloc (.cells #[.int .i64 5, .int .i64 0, .slice none 0 0] 24) = w1 at *
  go_loopw [4] (fun iv wr => CofL cl n w iv wr) (fun iv _ => n - (intOf iv).toNat)
  case atStart => exact ⟨0, .slice none 0 0, [], by omega, rfl, X1.out, X2.out, KsAt.nil _ _, X4.out, by rw [X3.out]; exact Nat.le_refl _⟩
  case round =>
    obtain ⟨k, ov, cs, hk, rfl, b0, b1, ks, bl, sz⟩ := hrel
    have B0 := Lib.hid b0; clear b0
    have B1 := Lib.hid b1; clear b1
    have KS := Lib.hid ks; clear ks
    have BL := Lib.hid bl; clear bl
    by_cases hkn : k < n
    · have i1 : (k : Int) < (n : Int) := by omega
      have hkl : k < cl.length := by rw [HN.out]; exact hkn
      obtain ⟨bq, oq, rfl, dq⟩ := H.out (by intro e; rw [e] at hkl; simp at hkl)
      have p1 := cell_later BL.out (dq k hkl)
      clear dq
      have TS := Lib.hid (take_snoc hkl)
      have LT := Lib.hid (HB.out _ (getI_mem hkl))
      generalize cl.getD k 0 = l at *
      have tl2 : (cl.take k).length = k := by rw [List.length_take]; omega
      have TL := Lib.hid tl2; clear tl2
      have l1 : -16 ≤ l := LT.out.2.1
      have l2 : l ≤ 16 := LT.out.2.2
      have s1 : w.heap.size + 1 < wr.heap.size := by omega
      have lbr : bq < wr.heap.size := by have := lt_of_cell p1; exact this
      have y2 : wr.cell? ⟨w.heap.size + 1, 2, none⟩ = some ov := by simp [World.cell?, B1.out]
      have f2 : wr.frozen? ⟨w.heap.size + 1, 2, none⟩ = false := by simp [World.frozen?, B1.out]
      have hr : Hid (wr.ownsRow (w.heap.size + 2) 24 3 ov k cs) := by have := KS.out.row; rw [TL.out] at this; exact this
      have ow : Hid (∀ g, ov.ownBlock = some g → w.heap.size + 2 ≤ g) := fun g hg => (hr.out.lt g hg).1
      have lbq : bq < w.heap.size := by
        obtain ⟨b', o', e', d'⟩ := H.out (by intro e; rw [e] at hkl; simp at hkl)
        injection e' with e'
        injection e' with e1 e2
        rw [e1]; exact lt_of_cell (d' 0 (by omega))
      by_cases hp : 0 < l
      · have j1 : IntKind.i64.wrap (l - 1) = l - 1 := IntWalk.i64_in _ (by omega)
        have eF : Hid (litF l = .mk 1 (l - 1) []) := by show _ = _; unfold litF; rw [if_pos hp]
        go_upto_region 6 with fail
        go_region_law (refine step_append_lies _ (by rfl) _ _ _ (by rfl) (w.heap.size + 2) 24 i0 _ 3 40 Try.underlying22 hi0 hz0 hz1 hz2 rfl (by omega) ov k cs (by rfl) (hr.out.alloc _) ⟨wr.heap.size, 0, none⟩ 1 1 [.int .i64 1, .int .i64 (l - 1), .slice none 0 0] (by rfl) (by rfl) (World.news_of_block (cs := #[.int .i64 1, .int .i64 (l - 1), .slice none 0 0]) (t := 24) (fr := (0, 0)) (heap_alloc_new wr _)) (by simp [Value.oneCell']) (by omega) (by unfold maxLen; omega) (by omega) (by simp; omega) (wr.heap.size + 1) (by simp) ?_; intro g5 cap5 w5 hown5 hgrow5 hat5 hlt5; have OW5 := Lib.hid hown5; have GR5 := Lib.hid hgrow5; have AT5 := Lib.hid hat5; clear hown5 hgrow5 hat5 hlt5; have eb : w5.heap[w.heap.size + 1]? = wr.heap[w.heap.size + 1]? := ((GR5.out.block (w.heap.size + 1) (by simp; omega) (fun e => by have := ow.out _ e.symm; omega)).trans (Below.heap_alloc wr _ (w.heap.size + 1) (by omega))); have r0 := (World.cell?_of_block (a := ⟨w.heap.size + 1, 2, none⟩) eb).trans y2; have rf : w5.frozen? ⟨w.heap.size + 1, 2, none⟩ = false := (by have e2 : w5.frozen? ⟨w.heap.size + 1, 2, none⟩ = wr.frozen? ⟨w.heap.size + 1, 2, none⟩ := (by simp only [World.frozen?, eb]); rw [e2]; exact f2); have EB := Lib.hid eb; clear eb)
        all_goals
          have B1W : Hid (Below wr.heap.size wr (wr.alloc (.cells #[.int .i64 1, .int .i64 (l - 1), .slice none 0 0] 24)).drew) := ((Below.refl _ wr).alloc (Nat.le_refl _) _).drew
          have KP : Hid (KsAt w5 (w.heap.size + 2) (.slice (some ⟨g5, 0, none⟩) (k + 1) cap5) (cl.take k ++ [l]) (cs ++ [.int .i64 1, .int .i64 (l - 1), .slice none 0 0])) := by
            have := KS.out.push (w1 := (wr.alloc (.cells #[.int .i64 1, .int .i64 (l - 1), .slice none 0 0] 24)).drew) (w2 := w5) (l := l) (a := none) (c := 0) (gr := g5) (cap := cap5) (fun b hb => B1W.out.block b hb) B1W.out.size sz (fun hn => absurd hp hn) GR5.out (by rw [eF.out, TL.out]; exact OW5.out) (by
              rcases AT5.out with e | e
              · exact Or.inl e
              · right; rw [e]; simp)
            rw [eF.out, TL.out] at this
            exact this
          have NX := Lib.hid (co_next hkn TS.out B0.out B1.out BL.out sz B1W.out GR5.out ow.out KP.out)
          clear r0 rf y2 f2 p1
          go_wp2_with fail
          go_roundw
          case rel => exact NX.out
          case measure => simp [intOf]; omega
      · have j1 : IntKind.i64.wrap (-l) = -l := IntWalk.i64_in _ (by omega)
        have j2 : IntKind.i64.wrap (-l - 1) = -l - 1 := IntWalk.i64_in _ (by omega)
        have NB : Hid (((wr.alloc (.cells #[.int .i64 1, .int .i64 (-l - 1), .slice none 0 0] 24)).alloc (.cells #[.int .i64 3, .int .i64 0, .slice (some ⟨wr.heap.size, 0, none⟩) 1 1] 24)).heap[wr.heap.size + 1]? = some (.cells #[.int .i64 3, .int .i64 0, .slice (some ⟨wr.heap.size, 0, none⟩) 1 1] 24 (0, 0))) := by
          have := heap_alloc_new (wr.alloc (.cells #[.int .i64 1, .int .i64 (-l - 1), .slice none 0 0] 24)) (.cells #[.int .i64 3, .int .i64 0, .slice (some ⟨wr.heap.size, 0, none⟩) 1 1] 24)
          show _ = _
          simpa using this
        have NA : Hid (((wr.alloc (.cells #[.int .i64 1, .int .i64 (-l - 1), .slice none 0 0] 24)).alloc (.cells #[.int .i64 3, .int .i64 0, .slice (some ⟨wr.heap.size, 0, none⟩) 1 1] 24)).heap[wr.heap.size]? = some (.cells #[.int .i64 1, .int .i64 (-l - 1), .slice none 0 0] 24 (0, 0))) :=
          (Below.heap_alloc _ _ wr.heap.size (by simp)).trans (heap_alloc_new wr _)
        have eF : Hid (litF l = .mk 3 0 [.mk 1 (-l - 1) []]) := by show _ = _; unfold litF; rw [if_neg hp]
        have s2 : w.heap.size + 1 < wr.heap.size + 1 := by omega
        go_upto_region 7 with fail
        go_region_law (refine step_append_lies _ (by rfl) _ _ _ (by rfl) (w.heap.size + 2) 24 i0 _ 3 40 Try.underlying22 hi0 hz0 hz1 hz2 rfl (by omega) ov k cs (by rfl) ((hr.out.alloc _).alloc _) ⟨wr.heap.size + 1, 0, none⟩ 1 1 [.int .i64 3, .int .i64 0, .slice (some ⟨wr.heap.size, 0, none⟩) 1 1] (by rfl) (by rfl) (World.news_of_block (cs := #[.int .i64 3, .int .i64 0, .slice (some ⟨wr.heap.size, 0, none⟩) 1 1]) (t := 24) (fr := (0, 0)) NB.out) (by simp [Value.oneCell']) (by omega) (by unfold maxLen; omega) (by omega) (by simp; omega) (wr.heap.size + 2) (by simp) ?_; intro g5 cap5 w5 hown5 hgrow5 hat5 hlt5; have OW5 := Lib.hid hown5; have GR5 := Lib.hid hgrow5; have AT5 := Lib.hid hat5; clear hown5 hgrow5 hat5 hlt5; have eb : w5.heap[w.heap.size + 1]? = wr.heap[w.heap.size + 1]? := ((GR5.out.block (w.heap.size + 1) (by simp; omega) (fun e => by have := ow.out _ e.symm; omega)).trans ((Below.heap_alloc _ _ (w.heap.size + 1) (by simp; omega)).trans (Below.heap_alloc wr _ (w.heap.size + 1) (by omega)))); have r0 := (World.cell?_of_block (a := ⟨w.heap.size + 1, 2, none⟩) eb).trans y2; have rf : w5.frozen? ⟨w.heap.size + 1, 2, none⟩ = false := (by have e2 : w5.frozen? ⟨w.heap.size + 1, 2, none⟩ = wr.frozen? ⟨w.heap.size + 1, 2, none⟩ := (by simp only [World.frozen?, eb]); rw [e2]; exact f2); have EB := Lib.hid eb; clear eb)
        all_goals
          have B1W : Hid (Below wr.heap.size wr ((wr.alloc (.cells #[.int .i64 1, .int .i64 (-l - 1), .slice none 0 0] 24)).alloc (.cells #[.int .i64 3, .int .i64 0, .slice (some ⟨wr.heap.size, 0, none⟩) 1 1] 24)).drew) := (((Below.refl _ wr).alloc (Nat.le_refl _) _).alloc (by simp) _).drew
          have KP : Hid (KsAt w5 (w.heap.size + 2) (.slice (some ⟨g5, 0, none⟩) (k + 1) cap5) (cl.take k ++ [l]) (cs ++ [.int .i64 3, .int .i64 0, .slice (some ⟨wr.heap.size, 0, none⟩) 1 1])) := by
            have := KS.out.push (w1 := ((wr.alloc (.cells #[.int .i64 1, .int .i64 (-l - 1), .slice none 0 0] 24)).alloc (.cells #[.int .i64 3, .int .i64 0, .slice (some ⟨wr.heap.size, 0, none⟩) 1 1] 24)).drew) (w2 := w5) (l := l) (a := some ⟨wr.heap.size, 0, none⟩) (c := 1) (gr := g5) (cap := cap5) (fun b hb => B1W.out.block b hb) B1W.out.size sz (fun hn => ⟨wr.heap.size, rfl, Nat.le_refl _, by simp; omega, NA.out⟩) GR5.out (by rw [eF.out, TL.out]; exact OW5.out) (by
              rcases AT5.out with e | e
              · exact Or.inl e
              · right; rw [e]; simp)
            rw [eF.out, TL.out] at this
            exact this
          have NX := Lib.hid (co_next hkn TS.out B0.out B1.out BL.out sz B1W.out GR5.out ow.out KP.out)
          clear r0 rf y2 f2 p1
          go_wp2_with fail
          go_roundw
          case rel => exact NX.out
          case measure => simp [intOf]; omega
    · obtain rfl : k = n := by omega
      have i1 : ¬ ((k : Int) < (k : Int)) := by omega
      have TK : Hid (cl.take k = cl) := List.take_of_length_le (by rw [HN.out]; exact Nat.le_refl _)
      rw [TK.out] at KS
      have ov2 : ∃ oa oc, ov = .slice oa k oc := by
        rcases KS.out.row.2 with ⟨h1, h2⟩ | ⟨g, cap, cur, h1, _⟩
        · exact ⟨none, 0, by rw [h1, ← HN.out, h2]⟩
        · exact ⟨_, cap, by rw [h1, HN.out]⟩
      obtain ⟨oa, oc, rfl⟩ := ov2
      have FM := Lib.hid (KS.out.fm (by rw [HN.out]; omega)).1
      have s1 : w.heap.size + 1 < wr.heap.size := by omega
      have z0 : wr.cell? ⟨w.heap.size + 1, 0, none⟩ = some (.int .i64 5) := by simp [World.cell?, B1.out]
      have z1 : wr.cell? ⟨w.heap.size + 1, 1, none⟩ = some (.int .i64 0) := by simp [World.cell?, B1.out]
      have z2 : wr.cell? ⟨w.heap.size + 1, 2, none⟩ = some (.slice oa k oc) := by simp [World.cell?, B1.out]
      have y0 : wr.cell? ⟨w.heap.size, 0, none⟩ = some (.int .i64 0) := by simp [World.cell?, B0.out]
      have y1 : wr.cell? ⟨w.heap.size, 1, none⟩ = some (.int .i64 0) := by simp [World.cell?, B0.out]
      have y2 : wr.cell? ⟨w.heap.size, 2, none⟩ = some (.slice none 0 0) := by simp [World.cell?, B0.out]
      have f0 : wr.frozen? ⟨w.heap.size, 0, none⟩ = false := by simp [World.frozen?, B0.out]
      have f1 : wr.frozen? ⟨w.heap.size, 1, none⟩ = false := by simp [World.frozen?, B0.out]
      have f2 : wr.frozen? ⟨w.heap.size, 2, none⟩ = false := by simp [World.frozen?, B0.out]
      have KS3 : Hid (KsAt (((wr.setCell ⟨w.heap.size, 0, none⟩ (.int .i64 5)).setCell ⟨w.heap.size, 1, none⟩ (.int .i64 0)).setCell ⟨w.heap.size, 2, none⟩ (.slice oa k oc)) (w.heap.size + 2) (.slice oa k oc) cl cs) := KS.out.keep fun b hT _ => by
        rw [Below.heap_setCell _ _ _ _ (show b ≠ w.heap.size by omega), Below.heap_setCell _ _ _ _ (show b ≠ w.heap.size by omega), Below.heap_setCell _ _ _ _ (show b ≠ w.heap.size by omega)]
      have FM3 := Lib.hid (KS3.out.fm (by rw [HN.out]; omega)).1
      have BF : Hid (Below w.heap.size w (((wr.setCell ⟨w.heap.size, 0, none⟩ (.int .i64 5)).setCell ⟨w.heap.size, 1, none⟩ (.int .i64 0)).setCell ⟨w.heap.size, 2, none⟩ (.slice oa k oc))) := ((BL.out.setCell (Nat.le_refl _) _).setCell (Nat.le_refl _) _).setCell (Nat.le_refl _) _
      clear FM KS3
      go_wp2_with fail
      refine bodyPost_ret (v := .agg #[.int .i64 5, .int .i64 0, .slice oa k oc]) (by simp [results, Try.results40, go_sem, y0, y1, y2]) rfl ⟨oa, oc, by rw [HN.out], FM3.out, BF.out⟩

end Go.Proofs.Ythhogbligfmpdaa
