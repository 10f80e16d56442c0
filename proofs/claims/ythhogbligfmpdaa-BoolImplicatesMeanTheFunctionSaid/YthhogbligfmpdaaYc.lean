/- The closure of 'fixed': what it keeps in memory; its short ways. -/
import Derived.Test.YthhogbligfmpdaaXe
import Derived.Test.YthhogbligfmpdaaPm
set_option linter.unusedVariables false
set_option linter.unusedSimpArgs false
namespace Go.Proofs.Ythhogbligfmpdaa
open Go.RowKit Bd

/-- Where the closure's variables lie. -/
structure FL where
  pm : Nat
  pv : Nat
  pd : Nat
  pw : Nat
  pb : Nat
  bm : Nat

def FL.fx (F : FL) (k : Nat) : Prop := k = F.pm ∨ k = F.pv ∨ k = F.pd ∨ k = F.pw ∨ k = F.pb ∨ k = F.bm

structure FG (w : World) (M : ML) (ns : List Nd) (dn : List (Nd × Int)) (F : FL) (v bit : Int) (dl : List (Int × Int)) : Prop where
  mgr : Mgr w M ns dn
  cm : w.heap[F.pm]? = some (.cells #[.pointer (some ⟨M.b, 0, none⟩)] 64 (0, 0))
  cv : w.heap[F.pv]? = some (.cells #[.int .i64 v] 3 (0, 0))
  cd : w.heap[F.pd]? = some (.cells #[.map (some F.bm)] 109 (0, 0))
  cw : w.heap[F.pw]? = some (.cells #[.func (.func 89) #[] #[.pointer (some ⟨F.pm, 0, none⟩), .pointer (some ⟨F.pv, 0, none⟩), .pointer (some ⟨F.pd, 0, none⟩), .pointer (some ⟨F.pw, 0, none⟩), .pointer (some ⟨F.pb, 0, none⟩)]] 75 (0, 0))
  cb : w.heap[F.pb]? = some (.cells #[.int .i64 bit] 3 (0, 0))
  map : mapIs inV w F.bm dl
  far : ∀ k, F.fx k → ¬ M.foot k

/-- What a step keeps: all but the manager's blocks and the map. -/
structure FSt (bm : Nat) (w : World) (M : ML) (w' : World) (M' : ML) : Prop where
  b : M'.b = M.b
  bi : M'.bi = M.bi
  bd : M'.bd = M.bd
  os : w'.os = w.os
  tape : w'.tape = w.tape
  output : w'.output = w.output
  size : w.heap.size ≤ w'.heap.size
  keep : ∀ k, k < w.heap.size → ¬ M.foot k → k ≠ bm → w'.heap[k]? = w.heap[k]?
  loc : ∀ g, M'.v.ownBlock = some g → M.v.ownBlock = some g ∨ w.heap.size ≤ g

theorem Step.fst {bm : Nat} {w w' : World} {M M' : ML} (h : Step w M w' M') : FSt bm w M w' M' := ⟨h.b, h.bi, h.bd, h.os, h.tape, h.output, h.size, fun k hk hf _ => h.keep k hk hf, h.loc⟩
theorem FSt.foot {bm : Nat} {w w' : World} {M M' : ML} (h : FSt bm w M w' M') {k : Nat} (hk : M'.foot k) : M.foot k ∨ w.heap.size ≤ k := by
  rcases hk with e | e | e | e
  · exact Or.inl (Or.inl (e.trans h.b))
  · exact Or.inl (Or.inr (Or.inl (e.trans h.bi)))
  · exact Or.inl (Or.inr (Or.inr (Or.inl (e.trans h.bd))))
  · rcases h.loc k e with e | e
    · exact Or.inl (Or.inr (Or.inr (Or.inr e)))
    · exact Or.inr e
theorem FSt.trans {bm : Nat} {w w1 w2 : World} {M M1 M2 : ML} (h : FSt bm w M w1 M1) (k : FSt bm w1 M1 w2 M2) : FSt bm w M w2 M2 := by
  refine ⟨k.b.trans h.b, k.bi.trans h.bi, k.bd.trans h.bd, k.os.trans h.os, k.tape.trans h.tape, k.output.trans h.output, Nat.le_trans h.size k.size, fun j hj hf hb => ?_, fun g hg => ?_⟩
  · rw [k.keep j (Nat.lt_of_lt_of_le hj h.size) (fun e => by rcases h.foot e with e | e; exact hf e; omega) hb]
    exact h.keep j hj hf hb
  · rcases k.loc g hg with e | e
    · exact h.loc g e
    · exact Or.inr (Nat.le_trans h.size e)
theorem FSt.refl (bm : Nat) (w : World) (M : ML) : FSt bm w M w M := (Step.refl w M).fst

theorem FG.lt {w : World} {M : ML} {ns : List Nd} {dn : List (Nd × Int)} {F : FL} {v bit : Int} {dl : List (Int × Int)} (h : FG w M ns dn F v bit dl) {k : Nat} (hk : F.fx k) : k < w.heap.size := by
  rcases hk with e | e | e | e | e | e
  · rw [e]; exact lt_of_some h.cm
  · rw [e]; exact lt_of_some h.cv
  · rw [e]; exact lt_of_some h.cd
  · rw [e]; exact lt_of_some h.cw
  · rw [e]; exact lt_of_some h.cb
  · rw [e]; obtain ⟨es, ck, h1, _⟩ := h.map; exact lt_of_some h1

theorem FG.step {w w' : World} {M M' : ML} {ns ns' : List Nd} {dn dn' : List (Nd × Int)} {F : FL} {v bit : Int} {dl : List (Int × Int)} (h : FG w M ns dn F v bit dl) (hm : Mgr w' M' ns' dn') (s : Step w M w' M') : FG w' M' ns' dn' F v bit dl := by
  have kp : ∀ k, F.fx k → w'.heap[k]? = w.heap[k]? := fun k hk => s.keep k (h.lt hk) (h.far k hk)
  refine ⟨hm, ?_, (kp _ (Or.inr (Or.inl rfl))).trans h.cv, (kp _ (Or.inr (Or.inr (Or.inl rfl)))).trans h.cd, (kp _ (Or.inr (Or.inr (Or.inr (Or.inl rfl))))).trans h.cw, (kp _ (Or.inr (Or.inr (Or.inr (Or.inr (Or.inl rfl)))))).trans h.cb, h.map.of_block (kp _ (Or.inr (Or.inr (Or.inr (Or.inr (Or.inr rfl)))))), fun k hk hf => ?_⟩
  · rw [s.b]; exact (kp _ (Or.inl rfl)).trans h.cm
  · rcases (s.fst (bm := 0)).foot hf with e | e
    · exact h.far k hk e
    · have := h.lt hk; omega

theorem FG.alloc {w : World} {M : ML} {ns : List Nd} {dn : List (Nd × Int)} {F : FL} {v bit : Int} {dl : List (Int × Int)} (h : FG w M ns dn F v bit dl) (o : Obj) : FG (w.alloc o) M ns dn F v bit dl := h.step (h.mgr.alloc o) (Step.alloc _ _ _)
theorem FG.drewN {w : World} {M : ML} {ns : List Nd} {dn : List (Nd × Int)} {F : FL} {v bit : Int} {dl : List (Int × Int)} (h : FG w M ns dn F v bit dl) (n : Nat) : FG (w.drewN n) M ns dn F v bit dl := h.step (h.mgr.drewN n) (Step.drewN _ _ _)

theorem FG.put {w : World} {M : ML} {ns : List Nd} {dn : List (Nd × Int)} {F : FL} {v bit : Int} {dl dl' : List (Int × Int)} {ob : Obj} (h : FG w M ns dn F v bit dl) (hm : mapIs inV (ChangeMaps.setBlock w F.bm ob) F.bm dl') :
    FG (ChangeMaps.setBlock w F.bm ob) M ns dn F v bit dl' ∧ FSt F.bm w M (ChangeMaps.setBlock w F.bm ob) M := by
  obtain ⟨es, ck, hb, _⟩ := h.map
  have ne : ∀ k (c : Array Value) (t : TypeId), w.heap[k]? = some (.cells c t (0, 0)) → k ≠ F.bm := by
    intro k c t hk e
    rw [e, hb] at hk
    simp at hk
  refine ⟨⟨h.mgr.of_blocks fun k hk => setBlock_other (fun e => h.far k (Or.inr (Or.inr (Or.inr (Or.inr (Or.inr e))))) hk), (setBlock_other (ne _ _ _ h.cm)).trans h.cm, (setBlock_other (ne _ _ _ h.cv)).trans h.cv, (setBlock_other (ne _ _ _ h.cd)).trans h.cd, (setBlock_other (ne _ _ _ h.cw)).trans h.cw, (setBlock_other (ne _ _ _ h.cb)).trans h.cb, hm, h.far⟩, ?_⟩
  exact ⟨rfl, rfl, rfl, rfl, rfl, rfl, by simp [ChangeMaps.setBlock], fun k _ _ hf => setBlock_other hf, fun _ h => Or.inl h⟩

theorem FG.reads {w : World} {M : ML} {ns : List Nd} {dn : List (Nd × Int)} {F : FL} {v bit : Int} {dl : List (Int × Int)} (h : FG w M ns dn F v bit dl) :
    w.cell? ⟨F.pm, 0, none⟩ = some (.pointer (some ⟨M.b, 0, none⟩)) ∧ w.cell? ⟨F.pv, 0, none⟩ = some (.int .i64 v) ∧ w.cell? ⟨F.pd, 0, none⟩ = some (.map (some F.bm)) ∧
    w.cell? ⟨F.pw, 0, none⟩ = some (.func (.func 89) #[] #[.pointer (some ⟨F.pm, 0, none⟩), .pointer (some ⟨F.pv, 0, none⟩), .pointer (some ⟨F.pd, 0, none⟩), .pointer (some ⟨F.pw, 0, none⟩), .pointer (some ⟨F.pb, 0, none⟩)]) ∧
    w.cell? ⟨F.pb, 0, none⟩ = some (.int .i64 bit) :=
  ⟨by simp [World.cell?, h.cm], by simp [World.cell?, h.cv], by simp [World.cell?, h.cd], by simp [World.cell?, h.cw], by simp [World.cell?, h.cb]⟩

/-- What the walk from a node comes to. -/
def FxPost (w : World) (M : ML) (ns : List Nd) (dn : List (Nd × Int)) (F : FL) (v : Int) (b : Bool) (dl : List (Int × Int)) (a : Int) (e : Ending) (w' : World) : Prop :=
  ∃ ns' r es v', e = .returned (.int .i64 r) ∧ FxRes ns a v b (top ns a) ns' r ∧ FG w' { M with v := v' } ns' dn F v (b.toNat : Nat) (dl ++ es) ∧ FxOk ns' v b (dl ++ es) ∧ (∀ p ∈ es, top ns a ≤ top ns' p.1) ∧ FSt F.bm w M w' { M with v := v' }

theorem FxPost.idle {w w' : World} {M : ML} {ns : List Nd} {dn : List (Nd × Int)} {F : FL} {v : Int} {b : Bool} {dl : List (Int × Int)} {a r : Int} (hr : FxRes ns a v b (top ns a) ns r) (h : FG w' M ns dn F v (b.toNat : Nat) dl) (d : FxOk ns v b dl) (s : FSt F.bm w M w' M) : FxPost w M ns dn F v b dl a (.returned (.int .i64 r)) w' :=
  ⟨ns, r, [], M.v, rfl, hr, by simpa using h, by simpa using d, by simp, s⟩

set_option maxRecDepth 100000 in
set_option maxHeartbeats 400000 in
theorem fx_neg (a : Int) (x y z u t : Value) (w : World) (h : a < 0) :
    Calls Try.prog 89 #[.int .i64 a, x, y, z, u, t] w fun e w' => e = .returned (.int .i64 a) ∧ Qt w w' := by
  go_enter Try.func89, Try.ntmps89
  go_wp2_with fail
  go_quiet (fail)
  go_wp2_with fail
  go_ret
  exact ⟨rfl, ⟨_, rfl⟩⟩

theorem top_same {w : World} {M : ML} {ns : List Nd} {dn : List (Nd × Int)} (h : Mgr w M ns dn) (hm : ns.length ≤ 9223372036854775807) {r : Int} (hr : Ref ns r) :
    Calls Try.prog 90 #[.pointer (some ⟨M.b, 0, none⟩), .int .i64 r] w fun e w' => e = .returned (.int .i64 (top ns r)) ∧ w' = w := (top_any h hm hr).mono fun _ _ x => ⟨x.1, x.2.symm⟩

set_option maxRecDepth 100000 in
set_option maxHeartbeats 400000 in
theorem fx_far {w : World} {M : ML} {ns : List Nd} {dn : List (Nd × Int)} {F : FL} {v bit : Int} {dl : List (Int × Int)} (h : FG w M ns dn F v bit dl) (hl9 : ns.length ≤ 9223372036854775807) {a : Int} (ha : Ref ns a) (h0 : ¬ a < 0) (ht : v < top ns a) :
    Calls Try.prog 89 #[.int .i64 a, .pointer (some ⟨F.pm, 0, none⟩), .pointer (some ⟨F.pv, 0, none⟩), .pointer (some ⟨F.pd, 0, none⟩), .pointer (some ⟨F.pw, 0, none⟩), .pointer (some ⟨F.pb, 0, none⟩)] w fun e w' => e = .returned (.int .i64 a) ∧ Qt w w' := by
  have TP := Lib.hid (fun q => top_same (h.mgr.drewN q) hl9 ha)
  obtain ⟨c1, c2, c3, c4, c5⟩ := h.reads
  clear h
  go_enter Try.func89, Try.ntmps89
  go_wp2_with fail
  go_quiet ((go_at_call 90; exact Calls.quiet_of_same (TP.out _)))
  go_wp2_with fail
  go_ret
  exact ⟨rfl, ⟨_, rfl⟩⟩

set_option maxRecDepth 100000 in
set_option maxHeartbeats 400000 in
theorem fx_hit {w : World} {M : ML} {ns : List Nd} {dn : List (Nd × Int)} {F : FL} {v bit : Int} {dl : List (Int × Int)} (h : FG w M ns dn F v bit dl) (hl9 : ns.length ≤ 9223372036854775807) {a r : Int} (ha : Ref ns a) (h0 : ¬ a < 0) (ht : ¬ v < top ns a) (hd : dl.lookup a = some r) :
    Calls Try.prog 89 #[.int .i64 a, .pointer (some ⟨F.pm, 0, none⟩), .pointer (some ⟨F.pv, 0, none⟩), .pointer (some ⟨F.pd, 0, none⟩), .pointer (some ⟨F.pw, 0, none⟩), .pointer (some ⟨F.pb, 0, none⟩)] w fun e w' => e = .returned (.int .i64 r) ∧ Qt w w' := by
  have TP := Lib.hid (fun q => top_same (h.mgr.drewN q) hl9 ha)
  obtain ⟨c1, c2, c3, c4, c5⟩ := h.reads
  have hl : ∀ q, (Instr.lookup 109 (.map (some F.bm)) (.int .i64 a) true).run Try.prog (w.drewN q) = .ok (.tuple #[.int .i64 r, .bool true]) (w.drewN q) := by
    intro q
    have := (h.drewN q).map.look key3 Try.underlying109 a
    rw [hd] at this
    exact this
  clear h hd
  go_enter Try.func89, Try.ntmps89
  go_wp2_with fail
  go_quiet ((go_at_call 90; exact Calls.quiet_of_same (TP.out _)))
  go_wp2_with fail
  go_ret
  exact ⟨rfl, ⟨_, rfl⟩⟩

set_option maxRecDepth 100000 in
set_option maxHeartbeats 1000000 in
theorem fx_now {w : World} {M : ML} {ns : List Nd} {dn : List (Nd × Int)} {F : FL} {v : Int} {b : Bool} {dl : List (Int × Int)} (h : FG w M ns dn F v (b.toNat : Nat) dl) (g : Bd.Good ns) (d : FxOk ns v b dl) (hl9 : ns.length ≤ 9223372036854775807) {i : Nat} (ha : Ref ns i) (ht : top ns i = v) (hd : dl.lookup (i : Int) = none) :
    Calls Try.prog 89 #[.int .i64 i, .pointer (some ⟨F.pm, 0, none⟩), .pointer (some ⟨F.pv, 0, none⟩), .pointer (some ⟨F.pd, 0, none⟩), .pointer (some ⟨F.pw, 0, none⟩), .pointer (some ⟨F.pb, 0, none⟩)] w (FxPost w M ns dn F v b dl i) := by
  have TP := Lib.hid (fun q => top_same (h.mgr.drewN q) hl9 ha)
  obtain ⟨c1, c2, c3, c4, c5⟩ := h.reads
  have hi : i < ns.length := by have := ha.2; omega
  have hi0 : (0 : Int) ≤ (i : Int) := Int.natCast_nonneg _
  have hi1 : (i : Int) < (ns.length : Int) := by omega
  have nt : ¬ v < top ns i := by omega
  have RS := Lib.hid (fx_here (b := b) g ha hi0 ht)
  have H := Lib.hid h; clear h
  have HD := Lib.hid hd; clear hd
  have G := Lib.hid g; clear g
  have D := Lib.hid d; clear d
  go_enter Try.func89, Try.ntmps89
  go_upto_region 1 with fail
  go_quiet ((go_at_call 90; exact Calls.quiet_of_same (TP.out _)))
  have H1 := Lib.hid (H.out.drewN nq)
  have S1 : Hid (FSt F.bm w M (w.drewN nq) M) := (Step.drewN w M nq).fst
  clear c1 c2 c3 c4 c5 TP
  generalize w.drewN nq = w1 at *
  obtain ⟨c1, c2, c3, c4, c5⟩ := H1.out.reads
  have hl : (Instr.lookup 109 (.map (some F.bm)) (.int .i64 i) true).run Try.prog w1 = .ok (.tuple #[.int .i64 0, .bool false]) w1 := by
    have := H1.out.map.look key3 Try.underlying109 (i : Int)
    rw [HD.out] at this
    exact this
  obtain ⟨gm, mcap, hmv, m0, m1, m2⟩ := H1.out.mgr.at hi
  have hmc := H1.out.mgr.c0
  rw [hmv] at hmc
  clear hmv
  go_upto_region 7 with fail
  clear nt hl c1 c2 c3 c4 c5 m0 m1 m2 hmc
  have A2 := Lib.hid (H1.out.alloc (.cells #[.int .i64 (nd ns i).1, .int .i64 (nd ns i).2.1, .int .i64 (nd ns i).2.2] 77))
  have NC := Lib.hid (heap_alloc_new w1 (.cells #[.int .i64 (nd ns i).1, .int .i64 (nd ns i).2.1, .int .i64 (nd ns i).2.2] 77))
  have S2 := Lib.hid (S1.out.trans (Step.alloc w1 M (.cells #[.int .i64 (nd ns i).1, .int .i64 (nd ns i).2.1, .int .i64 (nd ns i).2.2] 77)).fst)
  generalize w1.alloc (.cells #[.int .i64 (nd ns i).1, .int .i64 (nd ns i).2.1, .int .i64 (nd ns i).2.2] 77) = w2 at *
  obtain ⟨c1, c2, c3, c4, c5⟩ := A2.out.reads
  have n0 : w2.cell? ⟨w1.heap.size, 0, none⟩ = some (.int .i64 (nd ns i).1) := by simp [World.cell?, NC.out]
  have n1 : w2.cell? ⟨w1.heap.size, 1, none⟩ = some (.int .i64 (nd ns i).2.1) := by simp [World.cell?, NC.out]
  have n2 : w2.cell? ⟨w1.heap.size, 2, none⟩ = some (.int .i64 (nd ns i).2.2) := by simp [World.cell?, NC.out]
  have et : (nd ns i).1 = v := (top_nat i).symm.trans ht
  rw [et] at n0
  clear et
  have HT := Lib.hid ht; clear ht
  have vv : ¬ v < v := by omega
  have el : lo ns i = (nd ns i).2.1 := rfl
  have eh : Bd.hi ns i = (nd ns i).2.2 := rfl
  rw [el, eh] at RS
  generalize (nd ns i).2.1 = l0 at *
  generalize (nd ns i).2.2 = h0 at *
  clear el eh
  cases b
  · have bz : ((Bool.toNat false : Nat) : Int) = 0 := rfl
    rw [bz] at c5
    go_wp2_with (at_mapUpdate; refine wpList_mapIs_store key3 Try.underlying109 _ rfl _ _ _ rfl F.bm dl (i : Int) l0 rfl rfl rfl A2.out.map HD.out ?_; intro ob hmi; have HMI := Lib.hid hmi; clear hmi)
    go_ret
    obtain ⟨f1, f2⟩ := A2.out.put HMI.out
    refine ⟨ns, l0, [((i : Int), l0)], M.v, rfl, by rw [HT.out]; exact RS.out, f1, D.out.push G.out ha (by rw [HT.out]; exact RS.out), by simp, S2.out.trans f2⟩
  · have bz : ((Bool.toNat true : Nat) : Int) = 1 := rfl
    rw [bz] at c5
    go_wp2_with (at_mapUpdate; refine wpList_mapIs_store key3 Try.underlying109 _ rfl _ _ _ rfl F.bm dl (i : Int) h0 rfl rfl rfl A2.out.map HD.out ?_; intro ob hmi; have HMI := Lib.hid hmi; clear hmi)
    go_ret
    obtain ⟨f1, f2⟩ := A2.out.put HMI.out
    refine ⟨ns, h0, [((i : Int), h0)], M.v, rfl, by rw [HT.out]; exact RS.out, f1, D.out.push G.out ha (by rw [HT.out]; exact RS.out), by simp, S2.out.trans f2⟩

end Go.Proofs.Ythhogbligfmpdaa

/- The closure of 'fixed': the long way; 'fixed'. -/
namespace Go.Proofs.Ythhogbligfmpdaa
open Go.RowKit Bd

theorem look_none_of {dl : List (Int × Int)} {k : Int} (h : ∀ p ∈ dl, p.1 ≠ k) : dl.lookup k = none := by
  induction dl with
  | nil => rfl
  | cons p l ih =>
    rw [List.lookup_cons]
    have : (k == p.1) = false := beq_eq_false_iff_ne.2 (fun e => h p List.mem_cons_self e.symm)
    rw [this]
    exact ih fun q hq => h q (List.mem_cons_of_mem _ hq)

theorem look_mem {l : List (Int × Int)} {k r : Int} (h : l.lookup k = some r) : (k, r) ∈ l := by
  induction l with
  | nil => simp at h
  | cons p l ih =>
    rw [List.lookup_cons] at h
    cases hk : (k == p.1)
    · rw [hk] at h; exact List.mem_cons_of_mem _ (ih h)
    · rw [hk] at h
      simp only [Option.some.injEq] at h
      have : k = p.1 := by simpa using hk
      rw [this, ← h]; exact List.mem_cons_self

theorem fx_fresh {ns ns1 ns2 ms1 ms2 : List Nd} {dl es1 es2 : List (Int × Int)} {i u t1 t2 : Int} (hd : dl.lookup i = none) (ha : Ref ns i) (hu : top ns i = u) (e1 : ns1 = ns ++ ms1) (e2 : ns2 = ns1 ++ ms2)
    (h1 : ∀ p ∈ es1, t1 ≤ top ns1 p.1) (h2 : ∀ p ∈ es2, t2 ≤ top ns2 p.1) (l1 : u < t1) (l2 : u < t2) : (dl ++ es1 ++ es2).lookup i = none := by
  subst e1; subst e2
  rw [List.lookup_append, List.lookup_append, hd, look_none_of (fun p hp e => ?_), look_none_of (fun p hp e => ?_)]
  · rfl
  · have := h2 p hp
    rw [e, top_app (ha.app _), top_app ha] at this
    omega
  · have := h1 p hp
    rw [e, top_app ha] at this
    omega

theorem fa1 {n p q : Nat} (h : n + (p + p) ≤ 1000000000000) (hq : q ≤ p) : n + q ≤ 1000000000000 := by omega
theorem fa2 {n m p q q' : Nat} (h : n + (p + p) ≤ 1000000000000) (hm : m + 1 ≤ q) (hq : q ≤ p) (hq' : q' ≤ p) : n + m + q' ≤ 1000000000000 := by omega
theorem fa3 {n m m2 p q q' : Nat} (h : n + (p + p) ≤ 1000000000000) (hm : m + 1 ≤ q) (hq : q ≤ p) (hm2 : m2 + 1 ≤ q') (hq' : q' ≤ p) : n + m + m2 + 1 ≤ 1000000000000 := by omega
theorem FSt.cell {bm : Nat} {w w' : World} {M M' : ML} (s : FSt bm w M w' M') {k o : Nat} {x : Value} (hk : k < w.heap.size) (hf : ¬ M.foot k) (hb : k ≠ bm) (hc : w.cell? ⟨k, o, none⟩ = some x) : w'.cell? ⟨k, o, none⟩ = some x := (World.cell?_of_block (a := ⟨k, o, none⟩) (s.keep k hk hf hb)).trans hc

theorem fx_tops {ns ns1 ns2 ns3 ms1 ms2 ms3 : List Nd} {dl es1 es2 : List (Int × Int)} {i u t1 t2 r v : Int} {b : Bool} (ha : Ref ns i) (hu : top ns i = u) (e1 : ns1 = ns ++ ms1) (e2 : ns2 = ns1 ++ ms2) (e3 : ns3 = ns2 ++ ms3)
    (k1 : FxOk ns1 v b (dl ++ es1)) (k2 : FxOk ns2 v b (dl ++ es1 ++ es2)) (h1 : ∀ p ∈ es1, t1 ≤ top ns1 p.1) (h2 : ∀ p ∈ es2, t2 ≤ top ns2 p.1) (l1 : u < t1) (l2 : u < t2) : ∀ p ∈ es1 ++ es2 ++ [(i, r)], u ≤ top ns3 p.1 := by
  subst e1; subst e2; subst e3
  intro p hp
  rcases List.mem_append.1 hp with hp | hp
  · rcases List.mem_append.1 hp with hp | hp
    · have rr := (k1 p (List.mem_append_right _ hp)).1
      have := h1 p hp
      rw [top_app (rr.app _), top_app rr]
      omega
    · have rr := (k2 p (List.mem_append_right _ hp)).1
      have := h2 p hp
      rw [top_app rr]
      omega
  · simp only [List.mem_cons, List.not_mem_nil, or_false] at hp
    subst hp
    show u ≤ top _ i
    rw [top_app ((ha.app ms1).app ms2), top_app (ha.app ms1), top_app ha]
    omega

set_option maxRecDepth 100000 in
set_option maxHeartbeats 1000000 in
theorem fx_rec {w : World} {M : ML} {ns : List Nd} {dn : List (Nd × Int)} {F : FL} {v : Int} {b : Bool} {dl : List (Int × Int)} (h : FG w M ns dn F v (b.toNat : Nat) dl) (g : Bd.Good ns) (d : FxOk ns v b dl) {i : Nat} {u : Int} (ha : Ref ns i) (hu : top ns i = u) (huv : u < v) (hd : dl.lookup (i : Int) = none) (hlen : ns.length + 2 ^ (16 - u).toNat ≤ 1000000000000)
    (ih : ∀ (w : World) (M : ML) (ns : List Nd) (dl : List (Int × Int)) (a : Int), a < i → Ref ns a → FG w M ns dn F v (b.toNat : Nat) dl → Bd.Good ns → FxOk ns v b dl → ns.length + 2 ^ (16 - top ns a).toNat ≤ 1000000000000 →
      Calls Try.prog 89 #[.int .i64 a, .pointer (some ⟨F.pm, 0, none⟩), .pointer (some ⟨F.pv, 0, none⟩), .pointer (some ⟨F.pd, 0, none⟩), .pointer (some ⟨F.pw, 0, none⟩), .pointer (some ⟨F.pb, 0, none⟩)] w (FxPost w M ns dn F v b dl a)) :
    Calls Try.prog 89 #[.int .i64 i, .pointer (some ⟨F.pm, 0, none⟩), .pointer (some ⟨F.pv, 0, none⟩), .pointer (some ⟨F.pd, 0, none⟩), .pointer (some ⟨F.pw, 0, none⟩), .pointer (some ⟨F.pb, 0, none⟩)] w (FxPost w M ns dn F v b dl i) := by
  have hl9 : ns.length ≤ 9223372036854775807 := by generalize 2 ^ (16 - u).toNat = p at *; omega
  have TP := Lib.hid (fun q => top_same (h.mgr.drewN q) hl9 ha)
  obtain ⟨c1, c2, c3, c4, c5⟩ := h.reads
  have hi : i < ns.length := by have := ha.2; omega
  have hi0 : (0 : Int) ≤ (i : Int) := Int.natCast_nonneg _
  have hi1 : (i : Int) < (ns.length : Int) := by omega
  have nt : ¬ v < top ns i := by omega
  obtain ⟨hl1, hl2, hl3⟩ := g.ord.ref_lo ha hi0
  obtain ⟨hh1, hh2, hh3⟩ := g.ord.ref_hi ha hi0
  have tu := (g.ord.top_lt ha).1
  have tu2 := (g.ord.top_lt ha).2.2 hi0
  rw [hu] at hl3 hh3 tu tu2
  have epow : 2 ^ (16 - u).toNat = 2 ^ (16 - (u + 1)).toNat + 2 ^ (16 - (u + 1)).toNat := by
    rw [show (16 - u).toNat = (16 - (u + 1)).toNat + 1 from by omega, Nat.pow_succ]; omega
  have pl := pow_mono (show (16 - top ns (lo ns i)).toNat ≤ (16 - (u + 1)).toNat by omega)
  have ph := pow_mono (show (16 - top ns (Bd.hi ns i)).toNat ≤ (16 - (u + 1)).toNat by omega)
  rw [epow] at hlen
  have L0 : Hid (ns.length + 2 ^ (16 - top ns (lo ns i)).toNat ≤ 1000000000000) := fa1 hlen pl
  have PL := Lib.hid pl; clear pl
  have PH := Lib.hid ph; clear ph
  have HLE := Lib.hid hlen; clear hlen epow
  have H := Lib.hid h; clear h
  have HD := Lib.hid hd; clear hd
  have G := Lib.hid g; clear g
  have D := Lib.hid d; clear d
  have IH := Lib.hid ih; clear ih
  go_enter Try.func89, Try.ntmps89
  go_upto_region 1 with fail
  go_quiet ((go_at_call 90; exact Calls.quiet_of_same (TP.out _)))
  have H1 := Lib.hid (H.out.drewN nq)
  have S1 : Hid (FSt F.bm w M (w.drewN nq) M) := (Step.drewN w M nq).fst
  clear c1 c2 c3 c4 c5 TP
  generalize w.drewN nq = w1 at *
  obtain ⟨c1, c2, c3, c4, c5⟩ := H1.out.reads
  have hl : (Instr.lookup 109 (.map (some F.bm)) (.int .i64 i) true).run Try.prog w1 = .ok (.tuple #[.int .i64 0, .bool false]) w1 := by
    have := H1.out.map.look key3 Try.underlying109 (i : Int)
    rw [HD.out] at this
    exact this
  obtain ⟨gm, mcap, hmv, m0, m1, m2⟩ := H1.out.mgr.at hi
  have hmc := H1.out.mgr.c0
  rw [hmv] at hmc
  clear hmv
  go_upto_region 7 with fail
  clear nt hl c1 c2 c3 c4 c5 m0 m1 m2 hmc
  have A2 := Lib.hid (H1.out.alloc (.cells #[.int .i64 (nd ns i).1, .int .i64 (nd ns i).2.1, .int .i64 (nd ns i).2.2] 77))
  have NC := Lib.hid (heap_alloc_new w1 (.cells #[.int .i64 (nd ns i).1, .int .i64 (nd ns i).2.1, .int .i64 (nd ns i).2.2] 77))
  have S2 := Lib.hid (S1.out.trans (Step.alloc w1 M (.cells #[.int .i64 (nd ns i).1, .int .i64 (nd ns i).2.1, .int .i64 (nd ns i).2.2] 77)).fst)
  have nf : Hid (¬ M.foot w1.heap.size) := fun hf => absurd (H1.out.mgr.lt hf) (by omega)
  have nb : Hid (w1.heap.size ≠ F.bm) := fun e => absurd (H1.out.lt (Or.inr (Or.inr (Or.inr (Or.inr (Or.inr rfl)))))) (by omega)
  generalize w1.alloc (.cells #[.int .i64 (nd ns i).1, .int .i64 (nd ns i).2.1, .int .i64 (nd ns i).2.2] 77) = w2 at *
  have lt2 : w1.heap.size < w2.heap.size := lt_of_some NC.out
  obtain ⟨c1, c2, c3, c4, c5⟩ := A2.out.reads
  have n0 : w2.cell? ⟨w1.heap.size, 0, none⟩ = some (.int .i64 (nd ns i).1) := by simp [World.cell?, NC.out]
  have n1 : w2.cell? ⟨w1.heap.size, 1, none⟩ = some (.int .i64 (nd ns i).2.1) := by simp [World.cell?, NC.out]
  have n2 : w2.cell? ⟨w1.heap.size, 2, none⟩ = some (.int .i64 (nd ns i).2.2) := by simp [World.cell?, NC.out]
  have et : (nd ns i).1 = u := (top_nat i).symm.trans hu
  have el : (nd ns i).2.1 = lo ns i := rfl
  have eh : (nd ns i).2.2 = Bd.hi ns i := rfl
  rw [et] at n0
  rw [el] at n1
  rw [eh] at n2
  have N0 := Lib.hid n0
  have N2 := Lib.hid n2
  clear el eh et
  have HU := Lib.hid hu; clear hu
  have L1 := Lib.hid hl1
  have L2 := Lib.hid hl2
  have L3 := Lib.hid hl3
  have R1h := Lib.hid hh1
  have R2h := Lib.hid hh2
  have R3h := Lib.hid hh3
  have NL : Hid ((nd ns i).2.1 = lo ns i) := rfl
  have NH : Hid ((nd ns i).2.2 = Bd.hi ns i) := rfl
  rw [NL.out]
  clear hl1 hl2 hl3 hh1 hh2 hh3
  go_wp2_with fail
  refine (IH.out w2 M ns dl (lo ns i) L2.out L1.out A2.out G.out D.out L0.out).mono ?_
  rintro e w3 ⟨ns1, low, es1, v1, rfl, r1, g1, k1, t1, s1⟩
  obtain ⟨d1, d2, d3, d4, d5⟩ := g1.reads
  have q0 := s1.cell lt2 nf.out nb.out n0
  have q2 := s1.cell lt2 nf.out nb.out n2
  have RR1 := Lib.hid r1; clear r1
  have G1 := Lib.hid g1; clear g1
  have K1 := Lib.hid k1; clear k1
  have T1 := Lib.hid t1; clear t1
  have SS1 := Lib.hid s1; clear s1
  obtain ⟨ms1, hns1, lms1⟩ := RR1.out.ext
  have LM1 := Lib.hid lms1; clear lms1
  have HN1 := Lib.hid hns1; clear hns1
  have R1h1 : Hid (Ref ns1 (Bd.hi ns i)) := by show Ref _ _; rw [HN1.out]; exact R1h.out.app _
  have TH1 : Hid (top ns1 (Bd.hi ns i) = top ns (Bd.hi ns i)) := by show _ = _; rw [HN1.out]; exact top_app R1h.out
  have L01 : Hid (ns1.length + 2 ^ (16 - top ns1 (Bd.hi ns i)).toNat ≤ 1000000000000) := by
    show _ ≤ _
    rw [TH1.out, HN1.out, List.length_append]
    exact fa2 HLE.out LM1.out PL.out PH.out
  clear c1 c2 c3 c4 c5 n0 n1 n2
  have CI := Lib.hid (IH.out w3.drew { M with v := v1 } ns1 (dl ++ es1) (Bd.hi ns i) R2h.out R1h1.out (G1.out.step G1.out.mgr.drew (Step.drew _ _)) RR1.out.good K1.out L01.out)
  go_upto_region 10 with fail
  go_region_held3 (fun W => W.cell? ⟨F.pm, 0, none⟩ = some (.pointer (some ⟨M.b, 0, none⟩)) ∧ W.cell? ⟨F.pw, 0, none⟩ = some (.func (.func 89) #[] #[.pointer (some ⟨F.pm, 0, none⟩), .pointer (some ⟨F.pv, 0, none⟩), .pointer (some ⟨F.pd, 0, none⟩), .pointer (some ⟨F.pw, 0, none⟩), .pointer (some ⟨F.pb, 0, none⟩)]) ∧ W.cell? ⟨w1.heap.size, 0, none⟩ = some (.int .i64 u) ∧ W.cell? ⟨w1.heap.size, 2, none⟩ = some (.int .i64 (Bd.hi ns i)))
    (first
      | exact ⟨d1, d4, q0, q2⟩
      | exact ⟨x1, x4, y0, y2⟩
      | exact ⟨z1, z4, z0, z2⟩
      | go_keep)
    (first
      | (go_at_call 89; refine CI.out.mono ?_; rintro e w4 ⟨ns2, high, es2, v2, rfl, r2, g2, k2, t2, s2⟩; have SS2 := Lib.hid (SS1.out.trans ((Step.drew w3 { M with v := v1 }).fst.trans s2)); obtain ⟨x1, x2, x3, x4, x5⟩ := g2.reads; have y0 := SS2.out.cell lt2 nf.out nb.out (show w2.cell? ⟨w1.heap.size, 0, none⟩ = some (.int .i64 u) from N0.out); have y2 := SS2.out.cell lt2 nf.out nb.out (show w2.cell? ⟨w1.heap.size, 2, none⟩ = some (.int .i64 (Bd.hi ns i)) from N2.out); have RR2 := Lib.hid r2; have G2 := Lib.hid g2; have K2 := Lib.hid k2; have T2 := Lib.hid t2; clear r2 g2 k2 t2 s2; obtain ⟨ms2, hns2, lms2⟩ := RR2.out.ext; have LM2 := Lib.hid lms2; have HN2 := Lib.hid hns2; clear lms2 hns2)
      | (go_at_call 80; refine (node_any G2.out.mgr u low high (by rw [HN2.out, HN1.out, List.length_append, List.length_append]; exact fa3 HLE.out LM1.out PL.out LM2.out (by rw [TH1.out]; exact PH.out))).mono ?_; rintro e w5 ⟨rfl, v3, m3, s3⟩; have G3 := Lib.hid (G2.out.step m3 s3); have SS3 := Lib.hid (SS2.out.trans s3.fst); clear m3 s3; obtain ⟨z1, z5, z3, z4, z6⟩ := G3.out.reads; have z0 := SS3.out.cell lt2 nf.out nb.out (show w2.cell? ⟨w1.heap.size, 0, none⟩ = some (.int .i64 u) from N0.out); have z2 := SS3.out.cell lt2 nf.out nb.out (show w2.cell? ⟨w1.heap.size, 2, none⟩ = some (.int .i64 (Bd.hi ns i)) from N2.out)))
  obtain ⟨NR, FR⟩ := fx_step G.out ha hi0 HU.out huv (RR1.out.mono (by have := L3.out; omega)) (RR2.out.mono (by rw [TH1.out]; have := R3h.out; omega))
  obtain ⟨ms3, hns3, _⟩ := NR.ext
  have HN3 := Lib.hid hns3; clear hns3
  have FRH := Lib.hid FR; clear FR
  have FRESH := Lib.hid (fx_fresh HD.out ha HU.out HN1.out HN2.out T1.out T2.out L3.out (by rw [TH1.out]; exact R3h.out))
  have TOPS := Lib.hid (fun r => fx_tops (r := r) ha HU.out HN1.out HN2.out HN3.out K1.out K2.out T1.out T2.out L3.out (by rw [TH1.out]; exact R3h.out))
  have G3O := Lib.hid RR2.out.good.ord
  clear NR z0 z2 y0 y2 x1 x2 x3 x4 x5 q0 q2 d1 d2 d3 d4 d5
  generalize nodeS ns2 u low high = nr at *
  go_wp2_with (at_mapUpdate; refine wpList_mapIs_store key3 Try.underlying109 _ rfl _ _ _ rfl F.bm (dl ++ es1 ++ es2) (i : Int) nr.2 rfl rfl rfl G3.out.map FRESH.out ?_; intro ob hmi; have HMI := Lib.hid hmi; clear hmi)
  go_ret
  obtain ⟨f1, f2⟩ := G3.out.put HMI.out
  refine ⟨nr.1, nr.2, es1 ++ es2 ++ [((i : Int), nr.2)], v3, rfl, by rw [HU.out]; exact FRH.out, ?_, ?_, by rw [HU.out]; exact TOPS.out nr.2, (S2.out.trans SS3.out).trans f2⟩
  · have e : dl ++ (es1 ++ es2 ++ [((i : Int), nr.2)]) = dl ++ es1 ++ es2 ++ [((i : Int), nr.2)] := by simp
    rw [e]; exact f1
  · have e : dl ++ (es1 ++ es2 ++ [((i : Int), nr.2)]) = dl ++ es1 ++ es2 ++ [((i : Int), nr.2)] := by simp
    rw [e]
    have k3 : FxOk nr.1 v b (dl ++ es1 ++ es2) := by rw [HN3.out]; exact K2.out.app G3O.out _
    exact k3.push G.out ha (by rw [HU.out]; exact FRH.out)

theorem fx_walk {dn : List (Nd × Int)} {F : FL} {v : Int} {b : Bool} (hv : v < 16) (k : Nat) : ∀ (w : World) (M : ML) (ns : List Nd) (dl : List (Int × Int)) (a : Int), a < k → Ref ns a → FG w M ns dn F v (b.toNat : Nat) dl → Bd.Good ns → FxOk ns v b dl → ns.length + 2 ^ (16 - top ns a).toNat ≤ 1000000000000 →
      Calls Try.prog 89 #[.int .i64 a, .pointer (some ⟨F.pm, 0, none⟩), .pointer (some ⟨F.pv, 0, none⟩), .pointer (some ⟨F.pd, 0, none⟩), .pointer (some ⟨F.pw, 0, none⟩), .pointer (some ⟨F.pb, 0, none⟩)] w (FxPost w M ns dn F v b dl a) := by
  have neg : ∀ (w : World) (M : ML) (ns : List Nd) (dl : List (Int × Int)) (a : Int), a < 0 → Ref ns a → FG w M ns dn F v (b.toNat : Nat) dl → Bd.Good ns → FxOk ns v b dl →
      Calls Try.prog 89 #[.int .i64 a, .pointer (some ⟨F.pm, 0, none⟩), .pointer (some ⟨F.pv, 0, none⟩), .pointer (some ⟨F.pd, 0, none⟩), .pointer (some ⟨F.pw, 0, none⟩), .pointer (some ⟨F.pb, 0, none⟩)] w (FxPost w M ns dn F v b dl a) := by
    intro w M ns dl a h0 hr h g d
    refine (fx_neg a _ _ _ _ _ w h0).mono fun e w' ⟨h1, q, h2⟩ => ?_
    subst h1; subst h2
    exact FxPost.idle (fx_same g hr (Int.le_refl _) (by rw [top_neg h0]; exact hv)) (h.drewN q) d (Step.drewN _ _ _).fst
  induction k with
  | zero => intro w M ns dl a ha hr h g d hl; exact neg w M ns dl a (by omega) hr h g d
  | succ k ih =>
    intro w M ns dl a ha hr h g d hl
    by_cases h0 : a < 0
    · exact neg w M ns dl a h0 hr h g d
    · have hl9 : ns.length ≤ 9223372036854775807 := by generalize 2 ^ (16 - top ns a).toNat = p at *; omega
      by_cases ht : v < top ns a
      · refine (fx_far h hl9 hr h0 ht).mono fun e w' ⟨h1, q, h2⟩ => ?_
        subst h1; subst h2
        exact FxPost.idle (fx_same g hr (Int.le_refl _) ht) (h.drewN q) d (Step.drewN _ _ _).fst
      · obtain ⟨i, rfl⟩ := Int.eq_ofNat_of_zero_le (by omega : 0 ≤ a)
        cases hd : dl.lookup (i : Int) with
        | some r =>
          refine (fx_hit h hl9 hr h0 ht hd).mono fun e w' ⟨h1, q, h2⟩ => ?_
          subst h1; subst h2
          exact FxPost.idle (d.hit g (look_mem hd) (Int.le_refl _)) (h.drewN q) d (Step.drewN _ _ _).fst
        | none =>
          by_cases e : top ns i = v
          · exact fx_now h g d hl9 hr e hd
          · exact fx_rec h g d hr rfl (by omega) hd hl fun w M ns dl a ha' => ih w M ns dl a (by omega)

end Go.Proofs.Ythhogbligfmpdaa

/- 'fixed'. -/
namespace Go.Proofs.Ythhogbligfmpdaa
open Go.RowKit Bd

def fl0 (B : Nat) : FL := { pm := B, pv := B + 1, pd := B + 1 + 1 + 1 + 1, pw := B + 1 + 1 + 1 + 1 + 1, pb := B + 1 + 1, bm := B + 1 + 1 + 1 }
def fv0 (B : Nat) : Value := .func (.func 89) #[] #[.pointer (some ⟨B, 0, none⟩), .pointer (some ⟨B + 1, 0, none⟩), .pointer (some ⟨B + 1 + 1 + 1 + 1, 0, none⟩), .pointer (some ⟨B + 1 + 1 + 1 + 1 + 1, 0, none⟩), .pointer (some ⟨B + 1 + 1, 0, none⟩)]

theorem fg_new {w : World} {M : ML} {ns : List Nd} {dn : List (Nd × Int)} (h : Mgr w M ns dn) (v bit : Int) :
    ∀ W, W = ((((((w.alloc (.cells #[.pointer (some ⟨M.b, 0, none⟩)] 64)).alloc (.cells #[.int .i64 v] 3)).alloc (.cells #[.int .i64 bit] 3)).alloc (.map #[] 0)).alloc (.cells #[.map (some (w.heap.size + 1 + 1 + 1))] 109)).alloc (.cells #[fv0 w.heap.size] 75)) →
      FG W M ns dn (fl0 w.heap.size) v bit [] ∧ Step w M W M ∧ W.heap.size = w.heap.size + 6 := by
  intro W hW
  obtain ⟨n1, n2, n3, n4, n5, n6, n7⟩ := new6 w _ _ _ _ _ _ W hW
  have hB : ∀ k, k < w.heap.size → W.heap[k]? = w.heap[k]? := fun k hk => by rw [hW]; exact old6 hk _ _ _ _ _ _
  refine ⟨⟨h.of_blocks fun k hk => hB k (h.lt hk), n1, n2, n5, n6, n3, ⟨#[], 0, n4, rfl⟩, fun k hk hf => ?_⟩, ⟨rfl, rfl, rfl, by rw [hW]; rfl, by rw [hW]; rfl, by rw [hW]; rfl, by omega, fun k hk _ => hB k hk, fun _ h => Or.inl h⟩, n7⟩
  have := h.lt hf
  simp only [FL.fx, fl0] at hk
  omega

/-- What 'fixed' comes to. -/
def FdPost (w : World) (M : ML) (ns : List Nd) (dn : List (Nd × Int)) (v : Int) (b : Bool) (a : Int) (e : Ending) (w' : World) : Prop :=
  ∃ ns' r v', e = .returned (.int .i64 r) ∧ FxRes ns a v b (top ns a) ns' r ∧ Mgr w' { M with v := v' } ns' dn ∧ Step w M w' { M with v := v' }

set_option maxRecDepth 100000 in
set_option maxHeartbeats 1000000 in
theorem fixed_any {w : World} {M : ML} {ns : List Nd} {dn : List (Nd × Int)} {v bit : Int} {b : Bool} (h : Mgr w M ns dn) (g : Bd.Good ns) {a : Int} (ha : Ref ns a) (hv : v < 16) (hb : bit = (b.toNat : Nat)) (hlen : ns.length + 2 ^ (16 - top ns a).toNat ≤ 1000000000000) :
    Calls Try.prog 66 #[.pointer (some ⟨M.b, 0, none⟩), .int .i64 a, .int .i64 v, .int .i64 bit] w (FdPost w M ns dn v b a) := by
  have hmm := @run_makeMap Try.prog
  have H := Lib.hid h; clear h
  have G := Lib.hid g; clear g
  have HB := Lib.hid hb; clear hb
  have HL := Lib.hid hlen; clear hlen
  go_enter Try.func66, Try.ntmps66
  go_wp2_with fail
  obtain ⟨dg, st, sz⟩ := fg_new H.out v bit _ rfl
  have DG0 := Lib.hid dg; clear dg
  have ST := Lib.hid st; clear st
  have SZ := Lib.hid sz; clear sz
  unfold fv0 at DG0 ST SZ
  generalize (((((w.alloc (.cells #[.pointer (some ⟨M.b, 0, none⟩)] 64)).alloc (.cells #[.int .i64 v] 3)).alloc (.cells #[.int .i64 bit] 3)).alloc (.map #[] 0)).alloc (.cells #[.map (some (w.heap.size + 1 + 1 + 1))] 109)).alloc _ = W at *
  rw [HB.out] at DG0
  refine (fx_walk (F := fl0 w.heap.size) (b := b) hv (ns.length + 1) W M ns [] a (by have := ha.2; omega) ha DG0.out G.out (FxOk.nil _ _ _) HL.out).mono ?_
  rintro e w1 ⟨ns', r, es, v', rfl, fr, fg, _, _, s1⟩
  have FR := Lib.hid fr; clear fr
  have FG1 := Lib.hid fg; clear fg
  have S1 := Lib.hid s1; clear s1
  go_wp2_with fail
  go_ret
  refine ⟨ns', r, v', rfl, FR.out, FG1.out.mgr, S1.out.b, S1.out.bi, S1.out.bd, S1.out.os.trans ST.out.os, S1.out.tape.trans ST.out.tape, S1.out.output.trans ST.out.output, Nat.le_trans ST.out.size S1.out.size, fun k hk hf => ?_, fun g hg => ?_⟩
  · rw [S1.out.keep k (by have := ST.out.size; omega) hf (by simp only [fl0]; omega)]
    exact ST.out.keep k hk hf
  · rcases S1.out.loc g hg with e | e
    · exact Or.inl e
    · right; have := ST.out.size; omega

end Go.Proofs.Ythhogbligfmpdaa
