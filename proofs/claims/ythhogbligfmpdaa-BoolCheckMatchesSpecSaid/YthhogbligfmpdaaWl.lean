/- The diagram of a node on its way, in memory. -/
import Derived.Test.YthhogbligfmpdaaWk
import Derived.Test.YthhogbligfmpdaaPa
import Derived.Deep.RegionHeld3
set_option linter.unusedVariables false
set_option linter.unusedSimpArgs false
namespace Go.Proofs.Ythhogbligfmpdaa
open Go.RowKit Bd

/-- What a step may turn: blocks for which fx holds, and the row of a slice, which may move to a new block. -/
structure FS (fx : Nat → Prop) (w : World) (v : Value) (w' : World) (v' : Value) : Prop where
  os : w'.os = w.os
  tape : w'.tape = w.tape
  output : w'.output = w.output
  size : w.heap.size ≤ w'.heap.size
  keep : ∀ k, k < w.heap.size → ¬ fx k → v.ownBlock ≠ some k → w'.heap[k]? = w.heap[k]?
  loc : ∀ g, v'.ownBlock = some g → v.ownBlock = some g ∨ w.heap.size ≤ g

theorem FS.refl (fx : Nat → Prop) (w : World) (v : Value) : FS fx w v w v := ⟨rfl, rfl, rfl, Nat.le_refl _, fun _ _ _ _ => rfl, fun _ h => Or.inl h⟩
theorem FS.alloc (fx : Nat → Prop) (w : World) (v : Value) (o : Obj) : FS fx w v (w.alloc o) v := ⟨rfl, rfl, rfl, by simp, fun k hk _ _ => Below.heap_alloc w o k hk, fun _ h => Or.inl h⟩
theorem FS.drew (fx : Nat → Prop) (w : World) (v : Value) : FS fx w v w.drew v := ⟨rfl, rfl, rfl, Nat.le_refl _, fun _ _ _ _ => rfl, fun _ h => Or.inl h⟩
theorem FS.trans {fx : Nat → Prop} {w w1 w2 : World} {v v1 v2 : Value} (h : FS fx w v w1 v1) (k : FS fx w1 v1 w2 v2) : FS fx w v w2 v2 := by
  refine ⟨k.os.trans h.os, k.tape.trans h.tape, k.output.trans h.output, Nat.le_trans h.size k.size, ?_, ?_⟩
  · intro j hj hf hv
    rw [k.keep j (Nat.lt_of_lt_of_le hj h.size) hf ?_, h.keep j hj hf hv]
    intro e
    rcases h.loc j e with e' | e'
    · exact hv e'
    · omega
  · intro g hg
    rcases k.loc g hg with e | e
    · exact h.loc g e
    · exact Or.inr (Nat.le_trans h.size e)

/-- Where the closure's variables lie: number, walk, m, out; the map; the slice of the nodes that are made. -/
structure DL where
  bn : Nat
  bw : Nat
  bv : Nat
  bo : Nat
  bm : Nat
  v : Value

def DL.fx (D : DL) (k : Nat) : Prop := k = D.bo ∨ k = D.bm
def numL (L : List Int) : List (Int × Int) := L.zipIdx.map fun p => (p.1, (p.2 : Int))

theorem lookN_zip (x : Int) : ∀ (l : List Int) (k : Nat), ((l.zipIdx k).map fun p => (p.1, (p.2 : Int))).lookup x = if x ∈ l then some ((l.idxOf x + k : Nat) : Int) else none
  | [], k => by simp
  | y :: l, k => by
    have ih := lookN_zip x l (k + 1)
    simp only [List.zipIdx_cons, List.map_cons, List.lookup_cons, List.mem_cons, List.idxOf_cons]
    by_cases e : x = y
    · subst e; simp
    · rw [beq_eq_false_iff_ne.2 e, ih, beq_eq_false_iff_ne.2 (Ne.symm e)]
      by_cases hm : x ∈ l
      · simp only [hm, e, or_true, if_true]; congr 1; simp; omega
      · simp [hm, e]
theorem look_numL (x : Int) (L : List Int) : (numL L).lookup x = if x ∈ L then some ((L.idxOf x : Nat) : Int) else none := lookN_zip x L 0
theorem numL_push (L : List Int) (x : Int) : numL (L ++ [x]) = numL L ++ [(x, (L.length : Int))] := by simp [numL, List.zipIdx_append]

structure DG (w : World) (M : ML) (ns : List Nd) (dn : List (Nd × Int)) (D : DL) (L : List Int) (O : List Nd) (rt : Int) : Prop where
  mgr : Mgr w M ns dn
  cn : w.heap[D.bn]? = some (.cells #[.map (some D.bm)] 109 (0, 0))
  cw : w.heap[D.bw]? = some (.cells #[.func (.func 88) #[] #[.pointer (some ⟨D.bn, 0, none⟩), .pointer (some ⟨D.bw, 0, none⟩), .pointer (some ⟨D.bv, 0, none⟩), .pointer (some ⟨D.bo, 0, none⟩)]] 75 (0, 0))
  cv : w.heap[D.bv]? = some (.cells #[.pointer (some ⟨M.b, 0, none⟩)] 64 (0, 0))
  co : w.heap[D.bo]? = some (.cells #[D.v, .int .i64 rt] 27 (0, 0))
  row : w.ownsRow 0 77 3 D.v O.length (nsC O)
  map : mapIs inV w D.bm (numL L)
  far : ∀ k, (k = D.bo ∨ k = D.bm ∨ D.v.ownBlock = some k) → ¬ M.foot k

section
variable {w : World} {M : ML} {ns : List Nd} {dn : List (Nd × Int)} {D : DL} {L : List Int} {O : List Nd} {rt : Int}

theorem DG.row_block (h : DG w M ns dn D L O rt) {g : Nat} (hg : D.v.ownBlock = some g) : ∃ cur, w.heap[g]? = some (.cells cur 77 (0, 0)) := by
  rcases h.row.2 with ⟨h1, _⟩ | ⟨g', cap, cur, hv, _, hb, _⟩
  · rw [h1] at hg; simp [Value.ownBlock] at hg
  · rw [hv] at hg
    simp only [Value.ownBlock, Option.some.injEq] at hg
    subst hg
    exact ⟨cur, hb⟩

theorem DG.sl (h : DG w M ns dn D L O rt) : ∃ a cap, D.v = .slice a O.length cap := by
  rcases h.row.2 with ⟨h1, h2⟩ | ⟨g, cap, cur, hv, _⟩
  · exact ⟨none, 0, by rw [h1, h2]⟩
  · exact ⟨_, cap, hv⟩

/-- All that must stay where it is, by the kinds of the blocks. -/
theorem DG.apart (h : DG w M ns dn D L O rt) : D.v.ownBlock ≠ some D.bn ∧ D.v.ownBlock ≠ some D.bw ∧ D.v.ownBlock ≠ some D.bv ∧ D.v.ownBlock ≠ some D.bo ∧ D.v.ownBlock ≠ some D.bm ∧ D.bo ≠ D.bn ∧ D.bo ≠ D.bw ∧ D.bo ≠ D.bv ∧ D.bm ≠ D.bn ∧ D.bm ≠ D.bw ∧ D.bm ≠ D.bv ∧ D.bm ≠ D.bo := by
  have h1 := h.cn
  have h2 := h.cw
  have h3 := h.cv
  have h4 := h.co
  obtain ⟨_, _, h5, _⟩ := h.map
  refine ⟨fun e => ?_, fun e => ?_, fun e => ?_, fun e => ?_, fun e => ?_, fun e => ?_, fun e => ?_, fun e => ?_, fun e => ?_, fun e => ?_, fun e => ?_, fun e => ?_⟩
  · obtain ⟨cur, hr⟩ := h.row_block e; rw [h1] at hr; simp at hr
  · obtain ⟨cur, hr⟩ := h.row_block e; rw [h2] at hr; simp at hr
  · obtain ⟨cur, hr⟩ := h.row_block e; rw [h3] at hr; simp at hr
  · obtain ⟨cur, hr⟩ := h.row_block e; rw [h4] at hr; simp at hr
  · obtain ⟨cur, hr⟩ := h.row_block e; rw [h5] at hr; simp at hr
  · rw [← e, h4] at h1; simp at h1
  · rw [← e, h4] at h2; simp at h2
  · rw [← e, h4] at h3; simp at h3
  · rw [← e, h5] at h1; simp at h1
  · rw [← e, h5] at h2; simp at h2
  · rw [← e, h5] at h3; simp at h3
  · rw [← e, h5] at h4; simp at h4

theorem DG.of_blocks {w' : World} (h : DG w M ns dn D L O rt) (hb : ∀ k, k < w.heap.size → w'.heap[k]? = w.heap[k]?) : DG w' M ns dn D L O rt := by
  refine ⟨h.mgr.of_blocks fun k hk => hb k (h.mgr.lt hk), (hb _ (lt_of_some h.cn)).trans h.cn, (hb _ (lt_of_some h.cw)).trans h.cw, (hb _ (lt_of_some h.cv)).trans h.cv, (hb _ (lt_of_some h.co)).trans h.co,
    ownsRow_of_block h.row fun g hg => hb g (h.row.lt g hg).2, h.map.of_block (hb _ ?_), h.far⟩
  obtain ⟨_, _, h5, _⟩ := h.map
  exact lt_of_some h5
theorem DG.drew (h : DG w M ns dn D L O rt) : DG w.drew M ns dn D L O rt := h.of_blocks fun _ _ => rfl
theorem DG.drewN (h : DG w M ns dn D L O rt) (n : Nat) : DG (w.drewN n) M ns dn D L O rt := h.of_blocks fun _ _ => rfl
theorem DG.alloc (h : DG w M ns dn D L O rt) (o : Obj) : DG (w.alloc o) M ns dn D L O rt := h.of_blocks fun k hk => Below.heap_alloc w o k hk
end

/-- The variable 'out' behind the append to its nodes. -/
theorem DG.co_grown {w w3 : World} {M : ML} {ns : List Nd} {dn : List (Nd × Int)} {D : DL} {L : List Int} {O : List Nd} {rt : Int} (h : DG w M ns dn D L O rt) {o : Obj} (hg : ((w.alloc o).drew).grownBy w3 D.v.ownBlock) : w3.heap[D.bo]? = some (.cells #[D.v, .int .i64 rt] 27 (0, 0)) := by
  have hlt := lt_of_some h.co
  rw [hg.block D.bo (by simp; omega) (fun e => h.apart.2.2.2.1 e.symm)]
  exact (Below.heap_alloc w o D.bo hlt).trans h.co

theorem dg_pushed {w w3 : World} {M : ML} {ns : List Nd} {dn : List (Nd × Int)} {D : DL} {L : List Int} {O : List Nd} {rt : Int} {x : Nd} {o : Obj} {gg cap1 : Nat} (h : DG w M ns dn D L O rt) (hg : ((w.alloc o).drew).grownBy w3 D.v.ownBlock)
    (hown : w3.ownsRow 0 77 3 (.slice (some ⟨gg, 0, none⟩) (O.length + 1) cap1) (O.length + 1) (nsC O ++ [.int .i64 x.1, .int .i64 x.2.1, .int .i64 x.2.2])) (hat : D.v.ownBlock = some gg ∨ gg = w.heap.size + 1) :
    DG (w3.setCell ⟨D.bo, 0, none⟩ (.slice (some ⟨gg, 0, none⟩) (O.length + 1) cap1)) M ns dn { D with v := .slice (some ⟨gg, 0, none⟩) (O.length + 1) cap1 } L (O ++ [x]) rt ∧
    FS D.fx w D.v (w3.setCell ⟨D.bo, 0, none⟩ (.slice (some ⟨gg, 0, none⟩) (O.length + 1) cap1)) (.slice (some ⟨gg, 0, none⟩) (O.length + 1) cap1) := by
  have hsz := hg.size
  simp at hsz
  have hco := h.co_grown hg
  have hap := h.apart
  have hlt := lt_of_some h.co
  have hne : gg ≠ D.bo := by
    rcases hat with e | e
    · intro e2; subst e2; exact hap.2.2.2.1 e
    · omega
  have oth : ∀ k, k ≠ D.bo → (w3.setCell ⟨D.bo, 0, none⟩ (.slice (some ⟨gg, 0, none⟩) (O.length + 1) cap1)).heap[k]? = w3.heap[k]? := fun k hk => Below.heap_setCell _ _ _ _ hk
  have old : ∀ k, k < w.heap.size → k ≠ D.bo → D.v.ownBlock ≠ some k → (w3.setCell ⟨D.bo, 0, none⟩ (.slice (some ⟨gg, 0, none⟩) (O.length + 1) cap1)).heap[k]? = w.heap[k]? := by
    intro k hk hkb hkr
    rw [oth k hkb, hg.block k (by simp; omega) (fun e => hkr e.symm)]
    exact Below.heap_alloc w o k hk
  have hmlt : D.bm < w.heap.size := by obtain ⟨_, _, h5, _⟩ := h.map; exact lt_of_some h5
  refine ⟨⟨?_, ?_, ?_, ?_, ?_, ?_, ?_, ?_⟩, ⟨hg.os, hg.tape, hg.output, ?_, ?_, ?_⟩⟩
  · refine h.mgr.of_blocks fun k hk => old k (h.mgr.lt hk) (fun e => h.far k (Or.inl e) hk) (fun e => h.far k (Or.inr (Or.inr e)) hk)
  · exact (old _ (lt_of_some h.cn) (Ne.symm hap.2.2.2.2.2.1) hap.1).trans h.cn
  · exact (old _ (lt_of_some h.cw) (Ne.symm hap.2.2.2.2.2.2.1) hap.2.1).trans h.cw
  · exact (old _ (lt_of_some h.cv) (Ne.symm hap.2.2.2.2.2.2.2.1) hap.2.2.1).trans h.cv
  · have := setCell_block (w := w3) (a := ⟨D.bo, 0, none⟩) (u := .slice (some ⟨gg, 0, none⟩) (O.length + 1) cap1) hco rfl
    simpa using this
  · have e1 : nsC (O ++ [x]) = nsC O ++ [.int .i64 x.1, .int .i64 x.2.1, .int .i64 x.2.2] := by rw [nsC_append]; rfl
    rw [e1, List.length_append]
    exact ownsRow_of_block hown fun g hg' => by
      simp only [Value.ownBlock, Option.some.injEq] at hg'
      subst hg'
      exact oth gg hne
  · exact h.map.of_block (old _ hmlt hap.2.2.2.2.2.2.2.2.2.2.2 hap.2.2.2.2.1)
  · rintro k (e | e | e)
    · exact h.far k (Or.inl e)
    · exact h.far k (Or.inr (Or.inl e))
    · simp only [Value.ownBlock, Option.some.injEq] at e
      subst e
      rcases hat with e | e
      · exact h.far _ (Or.inr (Or.inr e))
      · intro hf
        have := h.mgr.lt hf
        omega
  · show w.heap.size ≤ (w3.setCell _ _).heap.size
    simp [World.setCell]; omega
  · intro k hk hf hv
    exact old k hk (fun e => hf (Or.inl e)) hv
  · intro g hg'
    simp only [Value.ownBlock, Option.some.injEq] at hg'
    subst hg'
    rcases hat with e | e
    · exact Or.inl e
    · exact Or.inr (by omega)

theorem dg_numbered {w : World} {M : ML} {ns : List Nd} {dn : List (Nd × Int)} {D : DL} {L L' : List Int} {O : List Nd} {rt : Int} {ob : Obj} (h : DG w M ns dn D L O rt) (hm : mapIs inV (ChangeMaps.setBlock w D.bm ob) D.bm (numL L')) :
    DG (ChangeMaps.setBlock w D.bm ob) M ns dn D L' O rt ∧ FS D.fx w D.v (ChangeMaps.setBlock w D.bm ob) D.v := by
  have hap := h.apart
  refine ⟨⟨?_, (setBlock_other (Ne.symm hap.2.2.2.2.2.2.2.2.1)).trans h.cn, (setBlock_other (Ne.symm hap.2.2.2.2.2.2.2.2.2.1)).trans h.cw, (setBlock_other (Ne.symm hap.2.2.2.2.2.2.2.2.2.2.1)).trans h.cv, (setBlock_other (Ne.symm hap.2.2.2.2.2.2.2.2.2.2.2)).trans h.co, ?_, hm, h.far⟩, ⟨rfl, rfl, rfl, by simp [ChangeMaps.setBlock], ?_, fun _ h => Or.inl h⟩⟩
  · exact h.mgr.of_blocks fun k hk => setBlock_other (fun e => h.far k (Or.inr (Or.inl e)) hk)
  · exact ownsRow_of_block h.row fun g hg => setBlock_other (fun e => hap.2.2.2.2.1 (e ▸ hg))
  · exact fun k _ hf _ => setBlock_other (fun e => hf (Or.inr e))

/-- What the walk from a node comes to. -/
def DPost (N : Nat) (w : World) (M : ML) (ns : List Nd) (dn : List (Nd × Int)) (D : DL) (L : List Int) (rt a : Int) (e : Ending) (w' : World) : Prop :=
  ∃ v' L' O', e = .returned (.int .i64 (rf (L'.map (key ns)) N (tb ns N a))) ∧ DG w' M ns dn { D with v := v' } L' O' rt ∧ WS ns L' O' ∧ L'.map (key ns) = dfs N (tb ns N a) (L.map (key ns)) ∧ FS D.fx w D.v w' v'

set_option maxRecDepth 100000 in
set_option maxHeartbeats 400000 in
theorem walk_neg (a : Int) (x y z u : Value) (w : World) (h : a < 0) :
    Calls Try.prog 88 #[.int .i64 a, x, y, z, u] w fun e w' => e = .returned (.int .i64 a) ∧ w = w' := by
  go_enter Try.func88, Try.ntmps88
  go_wp2_with fail
  go_ret
  exact ⟨rfl, rfl⟩

set_option maxRecDepth 100000 in
set_option maxHeartbeats 400000 in
theorem walk_known {w : World} {M : ML} {ns : List Nd} {dn : List (Nd × Int)} {D : DL} {L : List Int} {O : List Nd} {rt : Int} (h : DG w M ns dn D L O rt) (a : Int) (h0 : 0 ≤ a) (hm : a ∈ L) :
    Calls Try.prog 88 #[.int .i64 a, .pointer (some ⟨D.bn, 0, none⟩), .pointer (some ⟨D.bw, 0, none⟩), .pointer (some ⟨D.bv, 0, none⟩), .pointer (some ⟨D.bo, 0, none⟩)] w fun e w' => e = .returned (.int .i64 (L.idxOf a : Nat)) ∧ w = w' := by
  have hl : (Instr.lookup 109 (.map (some D.bm)) (.int .i64 a) true).run Try.prog w = .ok (.tuple #[.int .i64 (L.idxOf a : Nat), .bool true]) w := by
    have := h.map.look key3 Try.underlying109 a
    rw [look_numL, if_pos hm] at this
    exact this
  have c1 : w.cell? ⟨D.bn, 0, none⟩ = some (.map (some D.bm)) := by simp [World.cell?, h.cn]
  have H := Lib.hid h; clear h
  have HM := Lib.hid hm; clear hm
  go_enter Try.func88, Try.ntmps88
  go_wp2_with fail
  go_ret
  exact ⟨rfl, rfl⟩

end Go.Proofs.Ythhogbligfmpdaa
