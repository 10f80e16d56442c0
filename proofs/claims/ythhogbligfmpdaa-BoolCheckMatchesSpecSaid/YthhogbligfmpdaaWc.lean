/- The method node where the node is new. -/
import Derived.Test.YthhogbligfmpdaaWb
set_option linter.unusedVariables false
set_option linter.unusedSimpArgs false
namespace Go.Proofs.Ythhogbligfmpdaa
open Go.RowKit Bd

theorem Mgr.row_block {w : World} {M : ML} {ns : List Nd} {dn : List (Nd × Int)} (h : Mgr w M ns dn) {g : Nat} (hg : M.v.ownBlock = some g) : ∃ cur, w.heap[g]? = some (.cells cur 77 (0, 0)) := by
  rcases h.row.2 with ⟨h1, _⟩ | ⟨g', cap, cur, hv, _, hb, _⟩
  · rw [h1] at hg; simp [Value.ownBlock] at hg
  · rw [hv] at hg
    simp only [Value.ownBlock, Option.some.injEq] at hg
    subst hg
    exact ⟨cur, hb⟩

theorem Mgr.apart {w : World} {M : ML} {ns : List Nd} {dn : List (Nd × Int)} (h : Mgr w M ns dn) : M.v.ownBlock ≠ some M.b ∧ M.v.ownBlock ≠ some M.bi ∧ M.v.ownBlock ≠ some M.bd ∧ M.b ≠ M.bi ∧ M.b ≠ M.bd := by
  have hc := h.cel
  obtain ⟨_, _, hi, _⟩ := h.idx
  obtain ⟨_, _, hd, _⟩ := h.don
  refine ⟨fun e => ?_, fun e => ?_, fun e => ?_, fun e => ?_, fun e => ?_⟩
  · obtain ⟨cur, hr⟩ := h.row_block e; rw [hc] at hr; simp at hr
  · obtain ⟨cur, hr⟩ := h.row_block e; rw [hi] at hr; simp at hr
  · obtain ⟨cur, hr⟩ := h.row_block e; rw [hd] at hr; simp at hr
  · rw [e, hi] at hc; simp at hc
  · rw [e, hd] at hc; simp at hc

/-- The manager's cells behind the append to its row. -/
theorem Mgr.cel_grown {w w2 : World} {M : ML} {ns : List Nd} {dn : List (Nd × Int)} (h : Mgr w M ns dn) {o : Obj} (hg : ((w.alloc o).drew).grownBy w2 M.v.ownBlock) :
    w2.heap[M.b]? = some (.cells #[M.v, .map (some M.bi), .map (some M.bd)] 103 (0, 0)) := by
  have hlt := h.lt (Or.inl rfl)
  rw [hg.block M.b (by simp; omega) (fun e => h.apart.1 e.symm)]
  exact (Below.heap_alloc w o M.b hlt).trans h.cel

theorem setCell_block {w : World} {a : Addr} {u : Value} {c : Array Value} {t : TypeId} {f : Nat × Nat} (h : w.heap[a.block]? = some (.cells c t f)) (hs : a.spot = none) : (w.setCell a u).heap[a.block]? = some (.cells (c.setIfInBounds a.off u) t f) := by
  simp [World.setCell, Array.getElem?_modify, h, hs]

/-- The manager behind the append and the store of the slice; the node is not among the keys yet. -/
theorem mgr_pushed {w w2 : World} {M : ML} {ns : List Nd} {dn : List (Nd × Int)} {x : Nd} {o : Obj} {gg cap1 : Nat} (h : Mgr w M ns dn) (hg : ((w.alloc o).drew).grownBy w2 M.v.ownBlock)
    (hown : w2.ownsRow 0 77 3 (.slice (some ⟨gg, 0, none⟩) (ns.length + 1) cap1) (ns.length + 1) (nsC ns ++ [.int .i64 x.1, .int .i64 x.2.1, .int .i64 x.2.2])) (hat : M.v.ownBlock = some gg ∨ gg = w.heap.size + 1) :
    let w3 := w2.setCell ⟨M.b, 0, none⟩ (.slice (some ⟨gg, 0, none⟩) (ns.length + 1) cap1)
    let M' : ML := { M with v := .slice (some ⟨gg, 0, none⟩) (ns.length + 1) cap1 }
    w3.heap[M.b]? = some (.cells #[M'.v, .map (some M.bi), .map (some M.bd)] 103 (0, 0)) ∧ w3.ownsRow 0 77 3 M'.v (ns ++ [x]).length (nsC (ns ++ [x])) ∧ mapIs ndV w3 M.bi (idxL ns) ∧ mapIs ndV w3 M.bd dn ∧ Step w M w3 M' := by
  intro w3 M'
  have hlt := h.lt (Or.inl rfl)
  have hsz := hg.size
  simp at hsz
  have hcel := h.cel_grown hg
  have hap := h.apart
  have hne : gg ≠ M.b := by
    rcases hat with e | e
    · intro e2; subst e2; exact hap.1 e
    · omega
  have oth : ∀ k, k ≠ M.b → w3.heap[k]? = w2.heap[k]? := fun k hk => Below.heap_setCell _ _ _ _ hk
  have old : ∀ k, k < w.heap.size → k ≠ M.b → M.v.ownBlock ≠ some k → w3.heap[k]? = w.heap[k]? := by
    intro k hk hkb hkr
    rw [oth k hkb, hg.block k (by simp; omega) (fun e => hkr e.symm)]
    exact Below.heap_alloc w o k hk
  refine ⟨?_, ?_, ?_, ?_, ?_⟩
  · have := setCell_block (w := w2) (a := ⟨M.b, 0, none⟩) (u := M'.v) hcel rfl
    simpa using this
  · have e1 : nsC (ns ++ [x]) = nsC ns ++ [.int .i64 x.1, .int .i64 x.2.1, .int .i64 x.2.2] := by rw [nsC_append]; rfl
    rw [e1, List.length_append]
    refine ⟨hown.1, ?_⟩
    rcases hown.2 with ⟨h1, h2⟩ | ⟨g, cap, cur, hv, r0, hb, r⟩
    · simp at h1
    · simp only [Value.slice.injEq, Option.some.injEq, Addr.mk.injEq, and_true, true_and] at hv
      obtain ⟨rfl, rfl⟩ := hv
      exact Or.inr ⟨gg, cap1, cur, rfl, r0, (oth gg hne).trans hb, r⟩
  · exact h.idx.of_block (old _ (h.lt (Or.inr (Or.inl rfl))) (Ne.symm hap.2.2.2.1) hap.2.1)
  · exact h.don.of_block (old _ (h.lt (Or.inr (Or.inr (Or.inl rfl)))) (Ne.symm hap.2.2.2.2) hap.2.2.1)
  · refine ⟨rfl, rfl, rfl, hg.os, hg.tape, hg.output, ?_, ?_, ?_⟩
    · show w.heap.size ≤ (w2.setCell _ _).heap.size
      simp [World.setCell]; omega
    · intro k hk hf
      exact old k hk (fun e => hf (Or.inl e)) (fun e => hf (Or.inr (Or.inr (Or.inr e))))
    · intro g hg'
      simp only [Value.ownBlock, Option.some.injEq, M'] at hg'
      subst hg'
      rcases hat with e | e
      · exact Or.inl e
      · exact Or.inr (by omega)

/-- A map of the manager is written. -/
theorem step_index {w : World} {M : ML} {ob : Obj} : Step w M (ChangeMaps.setBlock w.drew M.bi ob) M :=
  ⟨rfl, rfl, rfl, rfl, rfl, rfl, by simp [ChangeMaps.setBlock], fun k _ hf => setBlock_other (fun e => hf (Or.inr (Or.inl e))), fun _ h => Or.inl h⟩

theorem mgr_indexed {w : World} {M : ML} {ns : List Nd} {dn : List (Nd × Int)} {x : Nd} {ob : Obj} (h1 : w.heap[M.b]? = some (.cells #[M.v, .map (some M.bi), .map (some M.bd)] 103 (0, 0))) (h2 : w.ownsRow 0 77 3 M.v (ns ++ [x]).length (nsC (ns ++ [x])))
    (h3 : mapIs ndV w M.bi (idxL ns)) (h4 : mapIs ndV w M.bd dn) (ne : M.bi ≠ M.bd) (h5 : mapIs ndV (ChangeMaps.setBlock w.drew M.bi ob) M.bi (idxL ns ++ [(x, (ns.length : Int))])) : Mgr (ChangeMaps.setBlock w.drew M.bi ob) M (ns ++ [x]) dn := by
  obtain ⟨es, ck, hm, _⟩ := h3
  have hb : M.b ≠ M.bi := fun e => by rw [e, hm] at h1; simp at h1
  refine ⟨(setBlock_other hb).trans h1, ?_, by rw [idxL_push]; exact h5, h4.of_block (setBlock_other (Ne.symm ne)), ne⟩
  refine ⟨h2.1, ?_⟩
  rcases h2.2 with h' | ⟨g, cap, cur, hv, r0, hg, r⟩
  · exact Or.inl h'
  · have hgi : g ≠ M.bi := fun e => by rw [e, hm] at hg; simp at hg
    exact Or.inr ⟨g, cap, cur, hv, r0, (setBlock_other hgi).trans hg, r⟩

theorem info77 : (Try.prog.info? 77).map (fun i => (i.zero, i.size, i.bytes)) = some (some (.agg #[.int .i64 0, .int .i64 0, .int .i64 0]), 3, 24) := by kernel_rfl

set_option maxRecDepth 100000 in
set_option maxHeartbeats 400000 in
theorem node_new {w : World} {M : ML} {ns : List Nd} {dn : List (Nd × Int)} (h : Mgr w M ns dn) (v l u : Int) (hne : (l == u) = false) (hi : ns.findIdx? (· == (v, l, u)) = none) (hlen : ns.length + 1 ≤ 1000000000000) :
    Calls Try.prog 80 #[.pointer (some ⟨M.b, 0, none⟩), .int .i64 v, .int .i64 l, .int .i64 u] w (NodePost w M dn (ns ++ [(v, l, u)]) ns.length) := by
  have hc := h.c1
  have hc0 := h.c0
  have hlt := h.lt (Or.inl rfl)
  have hl : ∀ q, (Instr.lookup 100 (.map (some M.bi)) (.agg #[.int .i64 v, .int .i64 l, .int .i64 u]) true).run Try.prog ((w.alloc (.cells #[.int .i64 v, .int .i64 l, .int .i64 u] 77)).drewN q) = .ok (.tuple #[.int .i64 0, .bool false]) ((w.alloc (.cells #[.int .i64 v, .int .i64 l, .int .i64 u] 77)).drewN q) := by
    intro q
    have := ((h.alloc (.cells #[.int .i64 v, .int .i64 l, .int .i64 u] 77)).drewN q).idx.look key77 Try.underlying100 (v, l, u)
    rw [look_idxL, hi] at this
    exact this
  obtain ⟨a, cap, hv⟩ := h.sl
  rw [hv] at hc0
  have H := Lib.hid h; clear h
  have HI := Lib.hid hi; clear hi
  have HV := Lib.hid hv; clear hv
  obtain ⟨i0, hi0, hz0, hz1, hz2⟩ := info_parts info77
  go_enter Try.func80, Try.ntmps80
  go_wp2_with fail
  go_quiet (fail)
  go_wp2_with fail
  have H1 := Lib.hid ((H.out.alloc (.cells #[.int .i64 v, .int .i64 l, .int .i64 u] 77)).drewN nq)
  have hk0 : ((w.alloc (.cells #[.int .i64 v, .int .i64 l, .int .i64 u] 77)).drewN nq).cell? ⟨w.heap.size, 0, none⟩ = some (.int .i64 v) := by simp
  have hk1 : ((w.alloc (.cells #[.int .i64 v, .int .i64 l, .int .i64 u] 77)).drewN nq).cell? ⟨w.heap.size, 1, none⟩ = some (.int .i64 l) := by simp
  have hk2 : ((w.alloc (.cells #[.int .i64 v, .int .i64 l, .int .i64 u] 77)).drewN nq).cell? ⟨w.heap.size, 2, none⟩ = some (.int .i64 u) := by simp
  have hnf : Hid (¬ M.foot w.heap.size) := fun hf => absurd (H.out.lt hf) (by omega)
  have hS := Lib.hid ((Step.alloc w M (.cells #[.int .i64 v, .int .i64 l, .int .i64 u] 77)).trans (Step.drewN _ M nq))
  have hsz : Hid (((w.alloc (.cells #[.int .i64 v, .int .i64 l, .int .i64 u] 77)).drewN nq).heap.size = w.heap.size + 1) := by show _ = _; simp
  clear hl hc hc0
  generalize (w.alloc (.cells #[.int .i64 v, .int .i64 l, .int .i64 u] 77)).drewN nq = w1 at *
  have c0 := H1.out.c0
  rw [HV.out] at c0
  have f0 : w1.frozen? ⟨M.b, 0, none⟩ = false := by simp [World.frozen?, H1.out.cel]
  have hlt1 := H1.out.lt (Or.inl rfl)
  have hB : Hid (w1.heap.size = w.heap.size + 1) := hsz
  obtain ⟨B, HBe⟩ : ∃ B, Hid (B = w.heap.size) := ⟨_, rfl⟩
  have hown := Lib.hid H1.out.row
  go_region_law (refine step_append_lies _ (by rfl) _ _ _ (by rfl) 0 77 i0 _ 3 24 Try.underlying25 hi0 hz0 hz1 hz2 rfl (by omega) (.slice a ns.length cap) ns.length (nsC ns) (by rfl) (by rw [← HV.out]; exact (hown.out.alloc _).drew) ⟨w1.heap.size, 0, none⟩ 1 1 [.int .i64 v, .int .i64 l, .int .i64 u] (by rfl) (by rfl) (World.news_of_block (cs := #[.int .i64 v, .int .i64 l, .int .i64 u]) (t := 77) (fr := (0, 0)) (heap_alloc_new w1 _)) (by simp [Value.oneCell']) (by omega) (by unfold maxLen; omega) (by omega) (by simp) (w1.heap.size + 1) (by simp) ?_; intro gg cap1 w2 hown1 hgrow hat hlt2; have hcel2 := Lib.hid (H1.out.cel_grown (by rw [HV.out]; exact hgrow)); have cb2 : w2.cell? ⟨M.b, 0, none⟩ = some (.slice a ns.length cap) := (by rw [← HV.out]; simp [World.cell?, hcel2.out]); have fb2 : w2.frozen? ⟨M.b, 0, none⟩ = false := (by simp [World.frozen?, hcel2.out]))
  all_goals
    have hp := mgr_pushed (x := (v, l, u)) H1.out (by rw [HV.out]; exact hgrow) hown1 (by rw [HV.out]; exact hat)
    obtain ⟨p1, p2, p3, p4, p5⟩ := hp
    have e0 : (w2.setCell ⟨M.b, 0, none⟩ (.slice (some ⟨gg, 0, none⟩) (ns.length + 1) cap1)).cell? ⟨w.heap.size, 0, none⟩ = some (.int .i64 v) := (World.cell?_of_block (a := ⟨w.heap.size, 0, none⟩) (p5.keep w.heap.size (by rw [hsz.out]; omega) hnf.out)).trans hk0
    have e1 : (w2.setCell ⟨M.b, 0, none⟩ (.slice (some ⟨gg, 0, none⟩) (ns.length + 1) cap1)).cell? ⟨w.heap.size, 1, none⟩ = some (.int .i64 l) := (World.cell?_of_block (a := ⟨w.heap.size, 1, none⟩) (p5.keep w.heap.size (by rw [hsz.out]; omega) hnf.out)).trans hk1
    have e2 : (w2.setCell ⟨M.b, 0, none⟩ (.slice (some ⟨gg, 0, none⟩) (ns.length + 1) cap1)).cell? ⟨w.heap.size, 2, none⟩ = some (.int .i64 u) := (World.cell?_of_block (a := ⟨w.heap.size, 2, none⟩) (p5.keep w.heap.size (by rw [hsz.out]; omega) hnf.out)).trans hk2
    have e3 : (w2.setCell ⟨M.b, 0, none⟩ (.slice (some ⟨gg, 0, none⟩) (ns.length + 1) cap1)).cell? ⟨M.b, 1, none⟩ = some (.map (some M.bi)) := by simp only [World.cell?, p1]; simp
    clear hown1 hgrow hat hlt2 cb2 fb2 hcel2 hk0 hk1 hk2
    have P1 := Lib.hid p1; clear p1
    have P2 := Lib.hid p2; clear p2
    have P3 := Lib.hid p3; clear p3
    have P4 := Lib.hid p4; clear p4
    have P5 := Lib.hid p5; clear p5
    go_wp2_with fail
    generalize w2.setCell ⟨M.b, 0, none⟩ (.slice (some ⟨gg, 0, none⟩) (ns.length + 1) cap1) = w3 at *
    go_still_tail 6, (by kernel_rfl)
    go_wp2_with (at_mapUpdate; refine wpList_mapIs_store key77 Try.underlying100 _ rfl _ _ _ rfl M.bi (idxL ns) (v, l, u) ns.length rfl rfl rfl (P3.out.of_block rfl) (by rw [look_idxL, HI.out]; rfl) ?_; intro ob hmi; have HMI := Lib.hid hmi; clear hmi)
    go_ret
    refine ⟨rfl, .slice (some ⟨gg, 0, none⟩) (ns.length + 1) cap1, ?_, ?_⟩
    · exact mgr_indexed (M := { M with v := .slice (some ⟨gg, 0, none⟩) (ns.length + 1) cap1 }) P1.out P2.out P3.out P4.out H.out.ne HMI.out
    · exact (hS.out.trans P5.out).trans (step_index (M := { M with v := .slice (some ⟨gg, 0, none⟩) (ns.length + 1) cap1 }))

theorem node_any {w : World} {M : ML} {ns : List Nd} {dn : List (Nd × Int)} (h : Mgr w M ns dn) (v l u : Int) (hlen : ns.length + 1 ≤ 1000000000000) :
    Calls Try.prog 80 #[.pointer (some ⟨M.b, 0, none⟩), .int .i64 v, .int .i64 l, .int .i64 u] w (NodePost w M dn (nodeS ns v l u).1 (nodeS ns v l u).2) := by
  unfold nodeS
  by_cases e : l = u
  · rw [if_pos e]; subst e; exact node_same h v l
  · rw [if_neg e]
    have hne : (l == u) = false := by simpa using e
    cases hf : ns.findIdx? (· == (v, l, u)) with
    | some i => exact node_known h v l u hne i hf
    | none => exact node_new h v l u hne hf hlen

end Go.Proofs.Ythhogbligfmpdaa
