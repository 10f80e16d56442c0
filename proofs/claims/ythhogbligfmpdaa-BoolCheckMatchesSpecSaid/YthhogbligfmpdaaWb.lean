/- The manager of nodes in memory; its methods top, split and node. -/
import Derived.Test.YthhogbligfmpdaaWa
import Derived.Deep.QuietTactic
import Derived.BigQuiet
import Derived.StillTailTactics
import Derived.Deep.RegionLaw
set_option linter.unusedVariables false
set_option linter.unusedSimpArgs false
namespace Go.Proofs.Ythhogbligfmpdaa
open Go.RowKit Bd

def nsC (ns : List Nd) : List Value := ns.flatMap fun x => [.int .i64 x.1, .int .i64 x.2.1, .int .i64 x.2.2]

theorem nsC_length (ns : List Nd) : (nsC ns).length = ns.length * 3 := by
  induction ns with
  | nil => rfl
  | cons x l ih => simp only [nsC, List.flatMap_cons, List.length_append, List.length_cons, List.length_nil] at *; omega

theorem nsC_append (a b : List Nd) : nsC (a ++ b) = nsC a ++ nsC b := by simp [nsC]

theorem nsC_at : ∀ (ns : List Nd) (i : Nat), i < ns.length → (nsC ns)[i * 3]? = some (.int .i64 (nd ns i).1) ∧ (nsC ns)[i * 3 + 1]? = some (.int .i64 (nd ns i).2.1) ∧ (nsC ns)[i * 3 + 2]? = some (.int .i64 (nd ns i).2.2)
  | [], i, h => by simp at h
  | x :: l, 0, _ => by simp [nsC, nd]
  | x :: l, i + 1, h => by
    have ih := nsC_at l i (by simpa using h)
    have e : nsC (x :: l) = [.int .i64 x.1, .int .i64 x.2.1, .int .i64 x.2.2] ++ nsC l := by simp [nsC]
    have e2 : nd (x :: l) ((i + 1 : Nat) : Int) = nd l i := by simp [nd]
    rw [e, e2]
    refine ⟨?_, ?_, ?_⟩
    · rw [List.getElem?_append_right (by simp; omega)]; simpa [show (i + 1) * 3 - 3 = i * 3 from by omega] using ih.1
    · rw [List.getElem?_append_right (by simp; omega)]; simpa [show (i + 1) * 3 + 1 - 3 = i * 3 + 1 from by omega] using ih.2.1
    · rw [List.getElem?_append_right (by simp; omega)]; simpa [show (i + 1) * 3 + 2 - 3 = i * 3 + 2 from by omega] using ih.2.2

/-- Where a manager lies: its cells, its two maps, the slice of its nodes. -/
structure ML where
  b : Nat
  bi : Nat
  bd : Nat
  v : Value

def ML.foot (M : ML) (k : Nat) : Prop := k = M.b ∨ k = M.bi ∨ k = M.bd ∨ M.v.ownBlock = some k

def idxL (ns : List Nd) : List (Nd × Int) := ns.zipIdx.map fun p => (p.1, (p.2 : Int))

structure Mgr (w : World) (M : ML) (ns : List Nd) (dn : List (Nd × Int)) : Prop where
  cel : w.heap[M.b]? = some (.cells #[M.v, .map (some M.bi), .map (some M.bd)] 103 (0, 0))
  row : w.ownsRow 0 77 3 M.v ns.length (nsC ns)
  idx : mapIs ndV w M.bi (idxL ns)
  don : mapIs ndV w M.bd dn
  ne : M.bi ≠ M.bd

theorem Mgr.of_blocks {w w' : World} {M : ML} {ns : List Nd} {dn : List (Nd × Int)} (h : Mgr w M ns dn) (hb : ∀ k, M.foot k → w'.heap[k]? = w.heap[k]?) : Mgr w' M ns dn := by
  refine ⟨(hb _ (Or.inl rfl)).trans h.cel, ?_, h.idx.of_block (hb _ (Or.inr (Or.inl rfl))), h.don.of_block (hb _ (Or.inr (Or.inr (Or.inl rfl)))), h.ne⟩
  refine ⟨h.row.1, ?_⟩
  rcases h.row.2 with h2 | ⟨g, cap, cur, hv, r0, hg, r⟩
  · exact Or.inl h2
  · exact Or.inr ⟨g, cap, cur, hv, r0, (hb g (Or.inr (Or.inr (Or.inr (by rw [hv]; rfl))))).trans hg, r⟩

theorem lt_of_some {w : World} {k : Nat} {o : Obj} (h : w.heap[k]? = some o) : k < w.heap.size := by
  rcases Nat.lt_or_ge k w.heap.size with h' | h'
  · exact h'
  · rw [Array.getElem?_eq_none h'] at h; simp at h

theorem Mgr.lt {w : World} {M : ML} {ns : List Nd} {dn : List (Nd × Int)} (h : Mgr w M ns dn) {k : Nat} (hk : M.foot k) : k < w.heap.size := by
  rcases hk with rfl | rfl | rfl | hk
  · exact lt_of_some h.cel
  · obtain ⟨_, _, h1, _⟩ := h.idx; exact lt_of_some h1
  · obtain ⟨_, _, h1, _⟩ := h.don; exact lt_of_some h1
  · exact (h.row.lt k hk).2

theorem Mgr.alloc {w : World} {M : ML} {ns : List Nd} {dn : List (Nd × Int)} (h : Mgr w M ns dn) (o : Obj) : Mgr (w.alloc o) M ns dn :=
  h.of_blocks fun k hk => Below.heap_alloc w o k (h.lt hk)
theorem Mgr.drew {w : World} {M : ML} {ns : List Nd} {dn : List (Nd × Int)} (h : Mgr w M ns dn) : Mgr w.drew M ns dn := h.of_blocks fun _ _ => rfl
theorem Mgr.drewN {w : World} {M : ML} {ns : List Nd} {dn : List (Nd × Int)} (h : Mgr w M ns dn) (n : Nat) : Mgr (w.drewN n) M ns dn := h.of_blocks fun _ _ => rfl

/-- The slice of the nodes. -/
theorem Mgr.sl {w : World} {M : ML} {ns : List Nd} {dn : List (Nd × Int)} (h : Mgr w M ns dn) : ∃ a cap, M.v = .slice a ns.length cap := by
  rcases h.row.2 with ⟨h1, h2⟩ | ⟨g, cap, cur, hv, _⟩
  · exact ⟨none, 0, by rw [h1, h2]⟩
  · exact ⟨_, cap, hv⟩

theorem Mgr.at {w : World} {M : ML} {ns : List Nd} {dn : List (Nd × Int)} (h : Mgr w M ns dn) {i : Nat} (hi : i < ns.length) : ∃ g cap, M.v = .slice (some ⟨g, 0, none⟩) ns.length cap ∧
    w.cell? ⟨g, i * 3, none⟩ = some (.int .i64 (nd ns i).1) ∧ w.cell? ⟨g, i * 3 + 1, none⟩ = some (.int .i64 (nd ns i).2.1) ∧ w.cell? ⟨g, i * 3 + 2, none⟩ = some (.int .i64 (nd ns i).2.2) := by
  have hr := h.row
  rcases h.row.2 with ⟨h1, h2⟩ | ⟨g, cap, cur, hv, _⟩
  · omega
  · rw [hv] at hr
    have hn := nsC_at ns i hi
    refine ⟨g, cap, hv, ?_, ?_, ?_⟩
    · rw [hr.cellAt _ (by omega)]; exact hn.1
    · rw [hr.cellAt _ (by omega)]; exact hn.2.1
    · rw [hr.cellAt _ (by omega)]; exact hn.2.2

theorem Mgr.c0 {w : World} {M : ML} {ns : List Nd} {dn : List (Nd × Int)} (h : Mgr w M ns dn) : w.cell? ⟨M.b, 0, none⟩ = some M.v := by simp [World.cell?, h.cel]
theorem Mgr.c1 {w : World} {M : ML} {ns : List Nd} {dn : List (Nd × Int)} (h : Mgr w M ns dn) : w.cell? ⟨M.b, 1, none⟩ = some (.map (some M.bi)) := by simp [World.cell?, h.cel]
theorem Mgr.c2 {w : World} {M : ML} {ns : List Nd} {dn : List (Nd × Int)} (h : Mgr w M ns dn) : w.cell? ⟨M.b, 2, none⟩ = some (.map (some M.bd)) := by simp [World.cell?, h.cel]

set_option maxHeartbeats 400000 in
theorem top_neg_any (r : Int) (b : Nat) (w : World) (hr : r < 0) :
    Calls Try.prog 90 #[.pointer (some ⟨b, 0, none⟩), .int .i64 r] w fun e w' => e = .returned (.int .i64 16) ∧ w = w' := by
  go_enter Try.func90, Try.ntmps90
  go_wp2
  go_ret
  exact ⟨rfl, rfl⟩

set_option maxHeartbeats 400000 in
theorem top_pos_any (i n g cap b : Nat) (v : Int) (w : World) (hi : i < n) (hm : n ≤ 9223372036854775807) (h0 : w.cell? ⟨b, 0, none⟩ = some (.slice (some ⟨g, 0, none⟩) n cap)) (h1 : w.cell? ⟨g, i * 3, none⟩ = some (.int .i64 v)) :
    Calls Try.prog 90 #[.pointer (some ⟨b, 0, none⟩), .int .i64 i] w fun e w' => e = .returned (.int .i64 v) ∧ w = w' := by
  go_enter Try.func90, Try.ntmps90
  go_wp2
  go_ret
  exact ⟨rfl, rfl⟩

theorem top_any {w : World} {M : ML} {ns : List Nd} {dn : List (Nd × Int)} (h : Mgr w M ns dn) (hm : ns.length ≤ 9223372036854775807) {r : Int} (hr : Ref ns r) :
    Calls Try.prog 90 #[.pointer (some ⟨M.b, 0, none⟩), .int .i64 r] w fun e w' => e = .returned (.int .i64 (top ns r)) ∧ w = w' := by
  by_cases h0 : r < 0
  · rw [top_neg h0]; exact top_neg_any r M.b w h0
  · obtain ⟨i, rfl⟩ := Int.eq_ofNat_of_zero_le (by omega : 0 ≤ r)
    have hi : i < ns.length := by have := hr.2; omega
    obtain ⟨g, cap, hv, c0, c1, c2⟩ := h.at hi
    have hc := h.c0
    rw [hv] at hc
    rw [top_nat]
    exact top_pos_any i ns.length g cap M.b _ w hi hm hc c0

set_option maxHeartbeats 400000 in
theorem split_any {w : World} {M : ML} {ns : List Nd} {dn : List (Nd × Int)} (h : Mgr w M ns dn) (hm : ns.length ≤ 9223372036854775807) {r v : Int} (hr : Ref ns r) (h16 : v < 16) :
    Calls Try.prog 98 #[.pointer (some ⟨M.b, 0, none⟩), .int .i64 r, .int .i64 v] w fun e w' => e = .returned (.tuple #[.int .i64 (spl0 ns r v), .int .i64 (spl1 ns r v)]) ∧ ∃ q, w' = w.drewN q := by
  have hT := top_any h hm hr
  unfold spl0 spl1
  by_cases e : top ns r = v
  · have h0 : 0 ≤ r := by
      by_cases h0 : r < 0
      · rw [top_neg h0] at e; omega
      · omega
    rw [if_pos e, if_pos e]
    obtain ⟨i, rfl⟩ := Int.eq_ofNat_of_zero_le h0
    have hi : i < ns.length := by have := hr.2; omega
    obtain ⟨g, cap, hv, c0, c1, c2⟩ := h.at hi
    have hc := h.c0
    rw [hv] at hc
    have hb : (top ns i != v) = false := by rw [bne_eq_false_iff_eq]; exact e
    have HT := Lib.hid hT; clear hT
    have HE := Lib.hid e; clear e
    unfold lo Bd.hi
    generalize (nd ns i).2.1 = l at *
    generalize (nd ns i).2.2 = u at *
    generalize top ns i = tp at *
    go_enter Try.func98, Try.ntmps98
    go_wp2_with fail
    refine HT.out.mono ?_
    rintro e w' ⟨rfl, rfl⟩
    go_wp2_with fail
    go_quiet (fail)
    go_wp2
    go_ret2
    exact ⟨rfl, _, rfl⟩
  · rw [if_neg e, if_neg e]
    have hb : (top ns r != v) = true := by simpa using e
    have HT := Lib.hid hT; clear hT
    have HE := Lib.hid e; clear e
    generalize top ns r = tp at *
    go_enter Try.func98, Try.ntmps98
    go_wp2_with fail
    refine HT.out.mono ?_
    rintro e w' ⟨rfl, rfl⟩
    go_wp2_with fail
    go_ret2
    exact ⟨rfl, 0, rfl⟩


theorem look_zip (x : Nd) : ∀ (ns : List Nd) (k : Nat), ((ns.zipIdx k).map fun p => (p.1, (p.2 : Int))).lookup x = (ns.findIdx? (· == x)).map fun i => ((i + k : Nat) : Int)
  | [], k => by simp
  | y :: l, k => by
    have ih := look_zip x l (k + 1)
    simp only [List.zipIdx_cons, List.map_cons, List.lookup_cons, List.findIdx?_cons]
    have hc : (x == y) = (y == x) := by rw [Bool.eq_iff_iff, beq_iff_eq, beq_iff_eq]; exact ⟨Eq.symm, Eq.symm⟩
    rw [hc]
    cases hxy : (y == x)
    · simp only [ih, Bool.false_eq_true, if_false, Option.map_map]
      cases l.findIdx? (· == x) with
      | none => rfl
      | some i => simp; omega
    · simp

theorem look_idxL (x : Nd) (ns : List Nd) : (idxL ns).lookup x = (ns.findIdx? (· == x)).map fun i : Nat => (i : Int) := by
  exact look_zip x ns 0

theorem idxL_push (ns : List Nd) (x : Nd) : idxL (ns ++ [x]) = idxL ns ++ [(x, (ns.length : Int))] := by
  simp [idxL, List.zipIdx_append]

/-- What a step of the manager may turn: its own blocks; its row of nodes may move to a new block. -/
structure Step (w : World) (M : ML) (w' : World) (M' : ML) : Prop where
  b : M'.b = M.b
  bi : M'.bi = M.bi
  bd : M'.bd = M.bd
  os : w'.os = w.os
  tape : w'.tape = w.tape
  output : w'.output = w.output
  size : w.heap.size ≤ w'.heap.size
  keep : ∀ k, k < w.heap.size → ¬ M.foot k → w'.heap[k]? = w.heap[k]?
  loc : ∀ g, M'.v.ownBlock = some g → M.v.ownBlock = some g ∨ w.heap.size ≤ g

theorem Step.refl (w : World) (M : ML) : Step w M w M := ⟨rfl, rfl, rfl, rfl, rfl, rfl, Nat.le_refl _, fun _ _ _ => rfl, fun _ h => Or.inl h⟩

theorem Step.trans {w w1 w2 : World} {M M1 M2 : ML} (h : Step w M w1 M1) (k : Step w1 M1 w2 M2) : Step w M w2 M2 := by
  refine ⟨k.b.trans h.b, k.bi.trans h.bi, k.bd.trans h.bd, k.os.trans h.os, k.tape.trans h.tape, k.output.trans h.output, Nat.le_trans h.size k.size, ?_, ?_⟩
  · intro j hj hf
    rw [k.keep j (Nat.lt_of_lt_of_le hj h.size) ?_, h.keep j hj hf]
    rintro (e | e | e | e)
    · exact hf (Or.inl (e.trans h.b))
    · exact hf (Or.inr (Or.inl (e.trans h.bi)))
    · exact hf (Or.inr (Or.inr (Or.inl (e.trans h.bd))))
    · rcases h.loc j e with e' | e'
      · exact hf (Or.inr (Or.inr (Or.inr e')))
      · omega
  · intro g hg
    rcases k.loc g hg with e | e
    · exact h.loc g e
    · exact Or.inr (Nat.le_trans h.size e)

theorem Step.alloc (w : World) (M : ML) (o : Obj) : Step w M (w.alloc o) M := ⟨rfl, rfl, rfl, rfl, rfl, rfl, by simp, fun k hk _ => Below.heap_alloc w o k hk, fun _ h => Or.inl h⟩
theorem Step.drewN (w : World) (M : ML) (n : Nat) : Step w M (w.drewN n) M := ⟨rfl, rfl, rfl, rfl, rfl, rfl, Nat.le_refl _, fun _ _ _ => rfl, fun _ h => Or.inl h⟩
theorem Step.drew (w : World) (M : ML) : Step w M w.drew M := ⟨rfl, rfl, rfl, rfl, rfl, rfl, Nat.le_refl _, fun _ _ _ => rfl, fun _ h => Or.inl h⟩

/-- What 'node' comes to. -/
def NodePost (w : World) (M : ML) (dn : List (Nd × Int)) (ns' : List Nd) (r : Int) (e : Ending) (w' : World) : Prop :=
  e = .returned (.int .i64 r) ∧ ∃ v', Mgr w' { M with v := v' } ns' dn ∧ Step w M w' { M with v := v' }

set_option maxHeartbeats 400000 in
theorem node_same {w : World} {M : ML} {ns : List Nd} {dn : List (Nd × Int)} (h : Mgr w M ns dn) (v l : Int) :
    Calls Try.prog 80 #[.pointer (some ⟨M.b, 0, none⟩), .int .i64 v, .int .i64 l, .int .i64 l] w (NodePost w M dn ns l) := by
  go_enter Try.func80, Try.ntmps80
  go_wp2
  go_ret
  exact ⟨rfl, M.v, h, Step.refl _ _⟩

set_option maxHeartbeats 400000 in
theorem node_known {w : World} {M : ML} {ns : List Nd} {dn : List (Nd × Int)} (h : Mgr w M ns dn) (v l u : Int) (hne : (l == u) = false) (i : Nat) (hi : ns.findIdx? (· == (v, l, u)) = some i) :
    Calls Try.prog 80 #[.pointer (some ⟨M.b, 0, none⟩), .int .i64 v, .int .i64 l, .int .i64 u] w (NodePost w M dn ns i) := by
  have hc := h.c1
  have hlt := h.lt (Or.inl rfl)
  have hl : ∀ q, (Instr.lookup 100 (.map (some M.bi)) (.agg #[.int .i64 v, .int .i64 l, .int .i64 u]) true).run Try.prog ((w.alloc (.cells #[.int .i64 v, .int .i64 l, .int .i64 u] 77)).drewN q) = .ok (.tuple #[.int .i64 i, .bool true]) ((w.alloc (.cells #[.int .i64 v, .int .i64 l, .int .i64 u] 77)).drewN q) := by
    intro q
    have := ((h.alloc (.cells #[.int .i64 v, .int .i64 l, .int .i64 u] 77)).drewN q).idx.look key77 Try.underlying100 (v, l, u)
    rw [look_idxL, hi] at this
    exact this
  have H := Lib.hid h; clear h
  have HI := Lib.hid hi; clear hi
  go_enter Try.func80, Try.ntmps80
  go_wp2_with fail
  go_quiet (fail)
  go_wp2
  go_ret
  exact ⟨rfl, M.v, (H.out.alloc _).drewN _, (Step.alloc _ _ _).trans (Step.drewN _ _ _)⟩


end Go.Proofs.Ythhogbligfmpdaa
