/- The method add: the walk. -/
import Derived.Test.YthhogbligfmpdaaWy
set_option linter.unusedVariables false
set_option linter.unusedSimpArgs false
namespace Go.Proofs.Ythhogbligfmpdaa
open Go.RowKit Bd

/-- A table as a function. -/
def fnT (T : List Bool) (x : Nat) : Bool := T.getD x false
theorem tl_fnT {T : List Bool} (h : T.length = 65536) : tl (fnT T) = T := by
  refine List.ext_getElem (by rw [tl_length, h]) fun i h1 h2 => ?_
  have := tl_get (fnT T) (x := i) (by rw [tl_length] at h1; exact h1)
  rw [List.getElem?_eq_getElem h1] at this
  simp only [Option.some.injEq] at this
  rw [this]
  unfold fnT
  rw [List.getD_eq_getElem?_getD, List.getElem?_eq_getElem h2]
  rfl

theorem cell_far {w : World} {a b : Addr} {v u : Value} (h : a.block ≠ b.block) (hc : w.cell? b = some u) : (w.setCell a v).cell? b = some u := by
  rw [World.cell?_setCell_other _ _ _ _ (by intro e; exact h (congrArg Addr.block e))]; exact hc

/-- The three blocks that add lays. -/
theorem add_start {w W : World} {M : ML} {ns ds : List Nd} {dn : List (Nd × Int)} {n cap : Nat} {a : Option Addr} {root : Int} {xs : List Value} {w1 : World} (h : St w M ns dn)
    (ho : w1.ownsRow 0 3 1 (.slice (some ⟨w.heap.size + 1, 0, none⟩) n n) n xs) (hg : (w.alloc (.cells #[.slice a n cap, .int .i64 root] 27)).grownBy w1 none) (hW : W = w1.alloc (.cells #[.slice (some ⟨w.heap.size + 1, 0, none⟩) n n] 53)) :
    AddR W M ns ds w.heap.size n 0 W (fun _ => 0) ns dn M.v ∧ W.heap.size = w1.heap.size + 1 ∧ w.heap.size + 1 < w1.heap.size ∧ W.heap[w.heap.size]? = some (.cells #[.slice a n cap, .int .i64 root] 27 (0, 0)) ∧ W.heap[w1.heap.size]? = some (.cells #[.slice (some ⟨w.heap.size + 1, 0, none⟩) n n] 53 (0, 0)) ∧ Below w.heap.size w W ∧ (∀ j, M.foot j → j < w.heap.size) := by
  have hf : ∀ j, M.foot j → j < w.heap.size := fun j hj => h.mgr.lt hj
  have hz : w.heap.size + 1 < w1.heap.size := (ho.lt _ rfl).2
  have hb : Below w.heap.size w w1 := ⟨hg.os, hg.tape, hg.output, by omega, fun k hk => by rw [hg.block k (by simp; omega) (by simp)]; exact Below.heap_alloc w _ k hk⟩
  have hbW : Below w.heap.size w W := by rw [hW]; exact hb.alloc (by omega) _
  have hsz : W.heap.size = w1.heap.size + 1 := by rw [hW]; simp
  have hrow := ho.alloc (.cells #[.slice (some ⟨w.heap.size + 1, 0, none⟩) n n] 53)
  rw [← hW] at hrow
  refine ⟨⟨⟨h.mgr.of_blocks fun k hk => hbW.block k (hf k hk), h.good, h.don⟩, ⟨[], by simp, by simp⟩, fun i hi => by omega, rfl, rfl, rfl, Nat.le_refl _, fun _ _ _ _ => rfl, fun g hg => Or.inl hg, fun j hj => by omega, fun j hj => ?_, fun j => hrow.frozenAt j⟩, hsz, hz, ?_, ?_, hbW, hf⟩
  · have hl := hrow.1
    rw [hrow.cellAt j (by omega), List.getElem?_eq_getElem (by omega)]
    exact ⟨_, rfl⟩
  · rw [hW, Below.heap_alloc _ _ _ (by omega), hg.block _ (by simp) (by simp)]
    exact heap_alloc_new w _
  · rw [hW]
    exact heap_alloc_new w1 _

def AddL (W : World) (M : ML) (ns ds : List Nd) (b n : Nat) (iv : Value) (wr : World) : Prop :=
  ∃ k at' ns' dn' v', k ≤ n ∧ iv = .int .i64 (k : Nat) ∧ AddR W M ns ds b n k wr at' ns' dn' v'

set_option maxRecDepth 100000 in
set_option maxHeartbeats 1000000 in
theorem add_any {w : World} {M : ML} {ns ds : List Nd} {dn : List (Nd × Int)} (h : St w M ns dn) {a : Option Addr} {n cap : Nat} {root : Int} (hd : DAt w ds a) (hfar : ds ≠ [] → ∀ b o, a = some ⟨b, o, none⟩ → ¬ M.foot b) (o : Ord ds) (hroot : Ref ds root) (hn : ds.length = n) (hl : n ≤ 2000) (hns : ns.length + 2000 ≤ 1000000000000) :
    Calls Try.prog 51 #[.pointer (some ⟨M.b, 0, none⟩), .agg #[.slice a n cap, .int .i64 root]] w (RPost w M ns (fnT (tb ds 16 root)) 2000) := by
  have H := Lib.hid h; clear h
  have HD := Lib.hid hd; clear hd
  have FAR := Lib.hid hfar; clear hfar
  have OD := Lib.hid o; clear o
  have HN := Lib.hid hn; clear hn
  have HR := Lib.hid hroot
  have hr2 : root < (n : Int) := by have := hroot.2; rw [HN.out] at this; exact this
  have hr1 := hroot.1
  clear hroot
  obtain ⟨i0, hi0, hz0, hz1, hz2⟩ := info_parts info3
  have S1 : Hid ((w.alloc (.cells #[.slice a n cap, .int .i64 root] 27)).heap.size = w.heap.size + 1) := by show _ = _; simp
  go_enter Try.func51, Try.ntmps51
  go_upto_region 2 with (at_make; refine wpList_make_full _ rfl _ _ 53 rfl 0 3 i0 (.int .i64 0) 1 Try.underlying53 hi0 hz0 hz1 .i64 .i64 (n : Int) (n : Int) n rfl rfl rfl rfl (by rw [hz2]; omega) (by unfold maxLen; omega) (Nat.zero_le _) ?_; intro w1 hown1 hg1; have OW := Lib.hid hown1; have GR := Lib.hid hg1; clear hown1 hg1)
  have OW1 : Hid (w1.ownsRow 0 3 1 (.slice (some ⟨w.heap.size + 1, 0, none⟩) n n) n (madeCells (Value.int .i64 0).cells (n * 1)).toList) := by
    have := OW.out
    rw [S1.out] at this
    exact this
  obtain ⟨x1, x2, x3, x4, x5, x6, x7⟩ := add_start (ds := ds) (root := root) H.out OW1.out GR.out rfl
  clear OW OW1 GR S1
  have X1 := Lib.hid x1; clear x1
  have X2 := Lib.hid x2; clear x2
  have X4 := Lib.hid x4; clear x4
  have X5 := Lib.hid x5; clear x5
  have X6 := Lib.hid x6; clear x6
  have X7 := Lib.hid x7; clear x7
  generalize w1.alloc (.cells #[.slice (some ⟨w.heap.size + 1, 0, none⟩) n n] 53) = W at *
  generalize w1.heap.size = bt at *
  obtain ⟨y0, y1, _⟩ := cells2 X4.out
  go_wp2_with fail
  go_loopw [17] (fun iv wr => AddL W M ns ds w.heap.size n iv wr) (fun iv _ => n - (intOf iv).toNat)
  case atStart => exact ⟨0, _, _, _, _, by omega, rfl, X1.out⟩
  case round =>
    clear y0 y1
    obtain ⟨k, at', ns', dn', v', hk, rfl, hr⟩ := hrel
    have HRR := Lib.hid hr
    have hsz := hr.size
    clear hr
    have b1 : Hid (wr.heap[w.heap.size]? = some (.cells #[.slice a n cap, .int .i64 root] 27 (0, 0))) := (HRR.out.keep _ (by rw [X2.out]; omega) (fun e => absurd (X7.out _ e) (by omega)) (by omega)).trans X4.out
    have b2 : Hid (wr.heap[bt]? = some (.cells #[.slice (some ⟨w.heap.size + 1, 0, none⟩) n n] 53 (0, 0))) := (HRR.out.keep _ (by rw [X2.out]; omega) (fun e => absurd (X7.out _ e) (by omega)) (by omega)).trans X5.out
    have t0 : wr.cell? ⟨bt, 0, none⟩ = some (.slice (some ⟨w.heap.size + 1, 0, none⟩) n n) := by simp [World.cell?, b2.out]
    obtain ⟨y0, y1, _⟩ := cells2 b1.out
    by_cases hkn : k < n
    · have i1 : (k : Int) < (n : Int) := by omega
      have hkd : k < ds.length := by rw [HN.out]; exact hkn
      obtain ⟨bd, od, rfl, d1⟩ := HD.out (by intro e; rw [e] at hkd; simp at hkd)
      have bdl : bd < w.heap.size := lt_of_cell (d1 k hkd).1
      have bk : Hid (wr.heap[bd]? = w.heap[bd]?) := (HRR.out.keep bd (by rw [X2.out]; omega) (FAR.out (by intro e; rw [e] at hkd; simp at hkd) _ _ rfl) (by omega)).trans (X6.out.block bd bdl)
      obtain ⟨p1, p2, p3⟩ := d1 k hkd
      have p1 := (World.cell?_of_block (a := ⟨bd, od + k * 3, none⟩) bk.out).trans p1
      have p2 := (World.cell?_of_block (a := ⟨bd, od + k * 3 + 1, none⟩) bk.out).trans p2
      have p3 := (World.cell?_of_block (a := ⟨bd, od + k * 3 + 2, none⟩) bk.out).trans p3
      clear d1
      obtain ⟨o1, o2, o3, o4, o5, o6⟩ := OD.out k hkd
      have el : lo ds k = (nd ds k).2.1 := rfl
      have eh : Bd.hi ds k = (nd ds k).2.2 := rfl
      rw [el] at o3 
      rw [eh] at o4
      clear o5 o6 el eh
      have PU := fun (w2 : World) (v2 : Value) (ob : Obj) => HRR.out.push (w2 := w2) (v2 := v2) (ob := ob) OD.out X7.out (by rw [X2.out]; omega) hkd hkn
      obtain ⟨⟨vv, l0, h0⟩, hnd⟩ : ∃ x, nd ds k = x := ⟨_, rfl⟩
      simp only [lo, Bd.hi, hnd] at PU p1 p2 p3 o1 o2 o3 o4
      have PUH := Lib.hid PU; clear PU
      have HND := Lib.hid hnd; clear hnd
      have LNS : ns'.length + 1 ≤ 1000000000000 := by
        obtain ⟨ms, e1, e2⟩ := HRR.out.ext
        rw [e1, List.length_append]; omega
      have wb : w.heap.size + 1 < wr.heap.size := by have := X2.out; omega
      have wt : bt < wr.heap.size := by have := X2.out; omega
      have ST := Lib.hid (HRR.out.st.mgr.alloc (.cells #[.int .i64 vv, .int .i64 l0, .int .i64 h0] 77)).drew
      have A0 := Lib.hid HRR.out.arr
      have CL : Hid (∀ r : Int, r < k → (wr.alloc (.cells #[.int .i64 vv, .int .i64 l0, .int .i64 h0] 77)).drew.cell? ⟨bt, 0, none⟩ = some (.slice (some ⟨w.heap.size + 1, 0, none⟩) n n) →
          Calls Try.prog 84 #[.int .i64 r, .pointer (some ⟨bt, 0, none⟩)] (wr.alloc (.cells #[.int .i64 vv, .int .i64 l0, .int .i64 h0] 77)).drew fun e w' => e = .returned (.int .i64 (mp at' r)) ∧ (wr.alloc (.cells #[.int .i64 vv, .int .i64 l0, .int .i64 h0] 77)).drew = w') := by
        intro r hr hc
        exact at_any hc (by omega) fun h0' => (World.cell?_of_block (a := ⟨w.heap.size + 1, r.toNat, none⟩) (Below.heap_alloc wr _ _ wb)).trans (A0.out r.toNat (by omega))
      obtain ⟨u, hu⟩ := HRR.out.has k hkn
      have fz := HRR.out.fz k
      have NF := Lib.hid (fun (j : Nat) (h1 : w.heap.size ≤ j) (h2 : j < bt + 1) => HRR.out.far X7.out h1 (by rw [X2.out]; exact h2))
      have NG : Hid (¬ ({ M with v := v' } : ML).foot wr.heap.size) := fun e => absurd (HRR.out.st.mgr.lt e) (by omega)
      go_upto_region 6 with fail
      have q0 : (wr.alloc (.cells #[.int .i64 vv, .int .i64 l0, .int .i64 h0] 77)).heap[wr.heap.size]? = some (.cells #[.int .i64 vv, .int .i64 l0, .int .i64 h0] 77 (0, 0)) := heap_alloc_new wr _
      have q1 : (wr.alloc (.cells #[.int .i64 vv, .int .i64 l0, .int .i64 h0] 77)).heap[bt]? = wr.heap[bt]? := Below.heap_alloc wr _ _ wt
      have q2 : (wr.alloc (.cells #[.int .i64 vv, .int .i64 l0, .int .i64 h0] 77)).heap[w.heap.size + 1]? = wr.heap[w.heap.size + 1]? := Below.heap_alloc wr _ _ wb
      have q3 : (wr.alloc (.cells #[.int .i64 vv, .int .i64 l0, .int .i64 h0] 77)).heap.size = wr.heap.size + 1 := by simp
      have P2 := Lib.hid (fun (w2 : World) (v2 : Value) => PUH.out w2 v2 (.cells #[.int .i64 vv, .int .i64 l0, .int .i64 h0] 77))
      clear PUH
      generalize wr.alloc (.cells #[.int .i64 vv, .int .i64 l0, .int .i64 h0] 77) = wa at *
      have Q0 := Lib.hid q0; clear q0
      have Q1 := Lib.hid q1; clear q1
      have Q2 := Lib.hid q2; clear q2
      have Q3 := Lib.hid q3; clear q3
      obtain ⟨c0, c1, c2⟩ := cells3 Q0.out
      have t1 : wa.cell? ⟨bt, 0, none⟩ = some (.slice (some ⟨w.heap.size + 1, 0, none⟩) n n) := (World.cell?_of_block (a := ⟨bt, 0, none⟩) Q1.out).trans t0
      go_region_held3 (fun W => W.cell? ⟨bt, 0, none⟩ = some (.slice (some ⟨w.heap.size + 1, 0, none⟩) n n) ∧ W.cell? ⟨wr.heap.size, 0, none⟩ = some (.int .i64 vv) ∧ W.cell? ⟨wr.heap.size, 1, none⟩ = some (.int .i64 l0) ∧ W.cell? ⟨wr.heap.size, 2, none⟩ = some (.int .i64 h0))
        (first
          | exact ⟨t1, c0, c1, c2⟩
          | exact ⟨s1, s2, s3, s4⟩
          | exact ⟨cell_far (by simp; omega) s1, cell_far (by simp; omega) s2, cell_far (by simp; omega) s3, cell_far (by simp; omega) s4⟩
          | go_keep)
        (first
          | (go_at_call_of 84 (Value.int .i64 l0); refine (CL.out l0 o3.2 t1).mono ?_; rintro e w2 ⟨rfl, rfl⟩)
          | (go_at_call_of 84 (Value.int .i64 h0); refine (CL.out h0 o4.2 t1).mono ?_; rintro e w2 ⟨rfl, rfl⟩)
          | (go_at_call 80; refine (node_any ST.out vv (mp at' l0) (mp at' h0) LNS).mono ?_; rintro e w2 ⟨rfl, v2, mg2, sp2⟩; have s1 := (World.cell?_of_block (a := ⟨bt, 0, none⟩) (sp2.keep bt (by show _ < wa.heap.size; rw [Q3.out]; omega) (NF.out bt (by omega) (by omega)))).trans t1; have s2 := (World.cell?_of_block (a := ⟨wr.heap.size, 0, none⟩) (sp2.keep wr.heap.size (by show _ < wa.heap.size; rw [Q3.out]; omega) NG.out)).trans c0; have s3 := (World.cell?_of_block (a := ⟨wr.heap.size, 1, none⟩) (sp2.keep wr.heap.size (by show _ < wa.heap.size; rw [Q3.out]; omega) NG.out)).trans c1; have s4 := (World.cell?_of_block (a := ⟨wr.heap.size, 2, none⟩) (sp2.keep wr.heap.size (by show _ < wa.heap.size; rw [Q3.out]; omega) NG.out)).trans c2; have kb := (sp2.keep (w.heap.size + 1) (by show _ < wa.heap.size; rw [Q3.out]; omega) (NF.out _ (by omega) (by omega))).trans Q2.out; have hu2 := (World.cell?_of_block (a := ⟨w.heap.size + 1, k, none⟩) kb).trans hu; have fz2 : w2.frozen? ⟨w.heap.size + 1, k, none⟩ = false := (by have : w2.frozen? ⟨w.heap.size + 1, k, none⟩ = wr.frozen? ⟨w.heap.size + 1, k, none⟩ := (by simp only [World.frozen?, kb]); rw [this]; exact fz); have PP := Lib.hid (P2.out w2 v2 mg2 sp2); clear mg2 sp2 kb))
      go_wp2_with fail
      go_roundw
      case rel => exact ⟨k + 1, _, _, dn', v2, by omega, by go_num, PP.out⟩
      case measure => simp [intOf]; omega
    · obtain rfl : k = n := by omega
      go_wp2_with fail
      refine (at_any (at' := at') t0 hr2 (fun h0 => HRR.out.arr root.toNat (by omega))).mono ?_
      rintro e w2 ⟨rfl, rfl⟩
      go_wp2_with fail
      go_ret
      obtain ⟨ms, e1, e2⟩ := HRR.out.ext
      have sm := HRR.out.ai.mp hr1 hr2
      refine ⟨ns', mp at' root, dn', v', rfl, ⟨ms, e1, by omega⟩, sm.1, ?_, HRR.out.st, ?_⟩
      · have hT := sm.2.2 16 (Nat.le_refl _) (by have := (OD.out.top_lt HR.out).1; omega)
        show tb ns' 16 (mp at' root) = tl (fnT (tb ds 16 root))
        rw [hT, tl_fnT (by rw [tb_length, two16])]
      · refine ⟨rfl, rfl, rfl, HRR.out.os.trans X6.out.os, HRR.out.tape.trans X6.out.tape, HRR.out.output.trans X6.out.output, Nat.le_trans X6.out.size hsz, fun j hj hfj => ?_, fun g hg => ?_⟩
        · rw [HRR.out.keep j (by have := X6.out.size; omega) hfj (by omega)]
          exact X6.out.block j hj
        · rcases HRR.out.loc g hg with e | e
          · exact Or.inl e
          · right; have := X6.out.size; omega

end Go.Proofs.Ythhogbligfmpdaa
