/- The method build. -/
import Derived.Test.YthhogbligfmpdaaWf
import Derived.Test.YthhogbligfmpdaaPa
import Derived.Deep.RegionHeld3
import Derived.Laws.EntriesVeiled
set_option linter.unusedVariables false
set_option linter.unusedSimpArgs false
namespace Go.Proofs.Ythhogbligfmpdaa
open Go.RowKit Bd

theorem below_step {w0 w w' : World} {M M' : ML} (hB : Below w0.heap.size w0 w) (hf : ∀ k, M.foot k → w0.heap.size ≤ k) (h : Step w M w' M') : Below w0.heap.size w0 w' ∧ ∀ k, M'.foot k → w0.heap.size ≤ k := by
  refine ⟨⟨h.os.trans hB.os, h.tape.trans hB.tape, h.output.trans hB.output, Nat.le_trans hB.size h.size, fun k hk => ?_⟩, ?_⟩
  · rw [h.keep k (Nat.lt_of_lt_of_le hk hB.size) (fun e => absurd (hf k e) (by omega))]; exact hB.block k hk
  · rintro k (e | e | e | e)
    · exact hf k (Or.inl (e.trans h.b))
    · exact hf k (Or.inr (Or.inl (e.trans h.bi)))
    · exact hf k (Or.inr (Or.inr (Or.inl (e.trans h.bd))))
    · rcases h.loc k e with e' | e'
      · exact hf k (Or.inr (Or.inr (Or.inr e')))
      · exact Nat.le_trans hB.size e'

theorem info3 : (Try.prog.info? 3).map (fun i => (i.zero, i.size, i.bytes)) = some (some (.int .i64 0), 1, 8) := by kernel_rfl

theorem fault_zero {op var : Int} {kids : List Fm} (h : fault (.mk op var kids) = 0) : own op var kids.length = 0 ∧ ∀ k (hk : k < kids.length), fault kids[k] = 0 := by
  by_cases ho : own op var kids.length = 0
  · refine ⟨ho, fun k hk => ?_⟩
    rw [fault_of_kids ho] at h
    exact (faultL_zero kids).1 h _ (List.getElem_mem hk)
  · rw [fault_of_own ho] at h
    exact absurd h ho

theorem own_zero {op var : Int} {n : Nat} (h : own op var n = 0) : (op = 1 ∧ n = 0 ∧ 0 ≤ var ∧ var ≤ 15) ∨ (op = 2 ∧ n = 0 ∧ 0 ≤ var ∧ var ≤ 1) ∨ (op = 3 ∧ n = 1) ∨ op = 4 ∨ op = 5 ∨ (op = 6 ∧ n = 2) ∨ (op = 7 ∧ n = 3) := by
  unfold own at h
  by_cases h1 : op < 1 ∨ 7 < op
  · simp [h1] at h
  · rw [if_neg h1] at h
    by_cases h2 : n ≠ want op n
    · simp [h2] at h
    · rw [if_neg h2] at h
      by_cases h3 : var < 0 ∨ mostVar op < var
      · simp [h3] at h
      · have hn : n = want op n := by omega
        have h7 : op = 1 ∨ op = 2 ∨ op = 3 ∨ op = 4 ∨ op = 5 ∨ op = 6 ∨ op = 7 := by omega
        have h3a : 0 ≤ var := by omega
        have h3b : var ≤ mostVar op := by omega
        clear h3 h2 h1 h
        rcases h7 with rfl | rfl | rfl | rfl | rfl | rfl | rfl
        · exact Or.inl ⟨rfl, by simpa [want] using hn, h3a, by simpa [mostVar] using h3b⟩
        · exact Or.inr (Or.inl ⟨rfl, by simpa [want] using hn, h3a, by simpa [mostVar] using h3b⟩)
        · exact Or.inr (Or.inr (Or.inl ⟨rfl, by simpa [want] using hn⟩))
        · exact Or.inr (Or.inr (Or.inr (Or.inl rfl)))
        · exact Or.inr (Or.inr (Or.inr (Or.inr (Or.inl rfl))))
        · exact Or.inr (Or.inr (Or.inr (Or.inr (Or.inr (Or.inl ⟨rfl, by simpa [want] using hn⟩)))))
        · exact Or.inr (Or.inr (Or.inr (Or.inr (Or.inr (Or.inr ⟨rfl, by simpa [want] using hn⟩)))))

theorem node_tab {w : World} {M : ML} {ns : List Nd} {dn : List (Nd × Int)} (h : St w M ns dn) {v : Int} (h0 : 0 ≤ v) (h16 : v < 16) (hl : ns.length + 1 ≤ 1000000000000) :
    Calls Try.prog 80 #[.pointer (some ⟨M.b, 0, none⟩), .int .i64 v, .int .i64 (-1), .int .i64 (-2)] w (RPost w M ns (fun x => x.testBit (15 - v.toNat)) 1) := by
  refine (node_any h.mgr v (-1) (-2) hl).mono ?_
  rintro e w' ⟨h1, v', h2, h3⟩
  have H := nodeS_spec h.good h0 h16 (ref_false ns) (ref_true ns) (by rw [top_neg (by omega)]; exact h16) (by rw [top_neg (by omega)]; exact h16)
  obtain ⟨ms, em, lm⟩ := H.ext
  exact ⟨_, _, dn, v', h1, ⟨ms, em, lm⟩, H.ref, tab_var h0 h16 H, ⟨h2, H.good, by rw [em]; exact h.don.app h.good.ord ms⟩, h3⟩

theorem KI.done {w : World} {M : ML} {ns : List Nd} {kids : List Fm} {bx : Obj} {k : Nat} {ao : Option Addr} {cp G : Nat} {wr : World} {ns' : List Nd} {dn' : List (Nd × Int)} {v' : Value} {rs : List Int} (h : KI w M ns kids bx k ao cp G wr ns' dn' v' rs)
    {f : Nat → Bool} {g G' : Nat} {e : Ending} {w2 : World} (hp : RPost wr { M with v := v' } ns' f g e w2) (hG : G + g ≤ G') : RPost w M ns f G' e w2 := by
  obtain ⟨ns2, r, dn2, v2, h1, ⟨ms, em, lm⟩, h3, h4, h5, h6⟩ := hp
  obtain ⟨ms0, e0, l0⟩ := h.ext
  exact ⟨ns2, r, dn2, v2, h1, ⟨ms0 ++ ms, by rw [em, e0, List.append_assoc], by rw [List.length_append]; omega⟩, h3, h4, h5, h.step.trans h6⟩

theorem KI.cells {w : World} {M : ML} {ns : List Nd} {kids : List Fm} {bx : Obj} {k : Nat} {ao : Option Addr} {cp G : Nat} {wr : World} {ns' : List Nd} {dn' : List (Nd × Int)} {v' : Value} {rs : List Int} (h : KI w M ns kids bx k ao cp G wr ns' dn' v' rs) (hk : 0 < k) :
    ∃ g, ao = some ⟨g, 0, none⟩ ∧ ∀ i, i < k → wr.cell? ⟨g, i, none⟩ = some (.int .i64 (rs.getD i 0)) := by
  have hr := h.row
  rcases h.row.2 with ⟨h1, h2⟩ | ⟨g, cap, cur, hv, _⟩
  · omega
  · simp only [Value.slice.injEq] at hv
    obtain ⟨rfl, _, rfl⟩ := hv
    refine ⟨g, rfl, fun i hi => ?_⟩
    rw [hr.cellAt i (by omega)]
    simp [List.getD_eq_getElem?_getD, show i < rs.length by rw [h.len]; exact hi]

theorem evL_getD (l : List Fm) (x i : Nat) (h : i < l.length) : (evF.evL l x).getD i false = evF (l.getD i (.mk 0 0 [])) x := by
  rw [evL_eq]; simp [List.getD_eq_getElem?_getD, h]

theorem evF_var (var : Int) (l : List Fm) (x : Nat) : evF (.mk 1 var l) x = x.testBit (15 - var.toNat) := by simp [evF, opF]
theorem evF_const (var : Int) (l : List Fm) (x : Nat) : evF (.mk 2 var l) x = (var == 1) := by simp [evF, opF]
theorem evF_not (var : Int) (l : List Fm) (x : Nat) (h : 0 < l.length) : evF (.mk 3 var l) x = !evF (l.getD 0 (.mk 0 0 [])) x := by
  simp only [evF, opF]; rw [evL_getD l x 0 h]; simp
theorem evF_xor (var : Int) (l : List Fm) (x : Nat) (h : 1 < l.length) : evF (.mk 6 var l) x = (evF (l.getD 0 (.mk 0 0 [])) x != evF (l.getD 1 (.mk 0 0 [])) x) := by
  simp only [evF, opF]; rw [evL_getD l x 0 (by omega), evL_getD l x 1 h]; simp
theorem evF_ite (var : Int) (l : List Fm) (x : Nat) (h : 2 < l.length) : evF (.mk 7 var l) x = (if evF (l.getD 0 (.mk 0 0 [])) x then evF (l.getD 1 (.mk 0 0 [])) x else evF (l.getD 2 (.mk 0 0 [])) x) := by
  simp only [evF, opF]; rw [evL_getD l x 0 (by omega), evL_getD l x 1 (by omega), evL_getD l x 2 h]; simp
theorem evF_and (var : Int) (l : List Fm) (x : Nat) : evF (.mk 4 var l) x = l.all fun f => evF f x := by
  simp [evF, opF, evL_eq, List.all_map]
theorem evF_or (var : Int) (l : List Fm) (x : Nat) : evF (.mk 5 var l) x = l.any fun f => evF f x := by
  simp [evF, opF, evL_eq, List.any_map]

theorem all_snoc (l : List Fm) (k : Nat) (h : k < l.length) (p : Fm → Bool) : ((l.take k).all p && p (l.getD k (.mk 0 0 []))) = (l.take (k + 1)).all p := by
  rw [List.take_succ_eq_append_getElem h, List.all_append, List.getD_eq_getElem?_getD, List.getElem?_eq_getElem h]
  simp only [List.all_cons, List.all_nil, Bool.and_true, Option.getD_some]
theorem any_snoc (l : List Fm) (k : Nat) (h : k < l.length) (p : Fm → Bool) : ((l.take k).any p || p (l.getD k (.mk 0 0 []))) = (l.take (k + 1)).any p := by
  rw [List.take_succ_eq_append_getElem h, List.any_append, List.getD_eq_getElem?_getD, List.getElem?_eq_getElem h]
  simp only [List.any_cons, List.any_nil, Bool.or_false, Option.getD_some]

/-- The relation of the loop that joins the kids. -/
def LR (w : World) (M : ML) (ns : List Nd) (kids : List Fm) (bx : Obj) (ao : Option Addr) (cp G : Nat) (rs : List Int) (f : Nat → Nat → Bool) (ov i : Value) (wr : World) : Prop :=
  ∃ k r ns' dn' v', k ≤ kids.length ∧ i = .int .i64 (k : Nat) ∧ ov = .int .i64 r ∧ KI w M ns kids bx kids.length ao cp (G + 65536 * k) wr ns' dn' v' rs ∧ Ref ns' r ∧ Tab ns' r (f k)

/-- The loop's relation. -/
def KR (w : World) (M : ML) (ns : List Nd) (kids : List Fm) (bx : Obj) (v i : Value) (wr : World) : Prop :=
  ∃ k ao cp ns' dn' v' rs, k ≤ kids.length ∧ i = .int .i64 (k : Nat) ∧ v = .slice ao k cp ∧ KI w M ns kids bx k ao cp (200000 * cnt.cntL (kids.take k) - 65536 * k) wr ns' dn' v' rs

set_option maxRecDepth 100000 in
set_option maxHeartbeats 1000000 in
theorem build_any {w0 : World} {F : Fm} {a : Option Addr} (h : FmAt w0 F a) : ∀ (cap : Nat) (w : World) (M : ML) (ns : List Nd) (dn : List (Nd × Int)), Below w0.heap.size w0 w → (∀ k, M.foot k → w0.heap.size ≤ k) → St w M ns dn → fault F = 0 → ns.length + 200000 * cnt F ≤ 1000000000000 →
    Calls Try.prog 43 #[.pointer (some ⟨M.b, 0, none⟩), .agg #[.int .i64 F.op, .int .i64 F.var, .slice a F.kids.length cap]] w (RPost w M ns (evF F) (200000 * cnt F - 65536)) := by
  induction h with
  | mk op var kids a A Cp hl h hk ih =>
  intro cap w M ns dn hB hft hst hfault hcnt
  have IH := Lib.hid ih; clear ih
  have H := Lib.hid h; clear h
  have HK := Lib.hid hk; clear hk
  have HFT := Lib.hid hft; clear hft
  have HST := Lib.hid hst; clear hst
  have HFA := Lib.hid hfault; clear hfault
  simp only [Fm.op, Fm.var, Fm.kids]
  obtain ⟨i0, hi0, hz0, hz1, hz2⟩ := info_parts info3
  go_enter Try.func43, Try.ntmps43
  go_wp2_with fail
  have k0 : Hid (KR w M ns kids (.cells #[.int .i64 op, .int .i64 var, .slice a kids.length cap] 24) (.slice none 0 0) (.int .i64 0) (w.alloc (.cells #[.int .i64 op, .int .i64 var, .slice a kids.length cap] 24))) := ⟨0, none, 0, ns, dn, M.v, [], Nat.zero_le _, rfl, rfl, by simpa [cnt.cntL] using KI.start HST.out _⟩
  generalize w.alloc (.cells #[.int .i64 op, .int .i64 var, .slice a kids.length cap] 24) = w1 at *
  go_loopw [5, 15] (fun v i wr => KR w M ns kids (.cells #[.int .i64 op, .int .i64 var, .slice a kids.length cap] 24) v i wr) (fun _ i _ => kids.length - (intOf i).toNat)
  case atStart => exact k0.out
  case round =>
    obtain ⟨k, ao, cp, ns', dn', v', rs, hkl, rfl, rfl, ki⟩ := hrel
    have K1 := Lib.hid ki; clear ki k0
    by_cases hkk : k < kids.length
    · obtain ⟨b, o, rfl, hc⟩ := H.out (by intro e; rw [e] at hkk; simp at hkk)
      have bs := below_step hB HFT.out K1.out.step
      obtain ⟨c0, c1, c2⟩ := kid_cells bs.1 (hc k hkk)
      have HC := Lib.hid hc; clear hc
      have BS := Lib.hid bs; clear bs
      go_wp2_with fail
      obtain ⟨ms, em, lm⟩ := K1.out.ext
      have hcs := cntL_take kids k hkk
      have hle := cntL_take_le kids (k + 1)
      have hcc : cnt (.mk op var kids) = 1 + cnt.cntL kids := rfl
      have harith : ns'.length + 200000 * cnt kids[k] ≤ 1000000000000 := by rw [em, List.length_append]; omega
      have hp1 := cnt_pos kids[k]
      have hp2 := len_le_cntL (kids.take k)
      have hp3 : (kids.take k).length = k := by rw [List.length_take]; omega
      have hg2 : Hid (200000 * cnt.cntL (kids.take k) - 65536 * k + (200000 * cnt kids[k] - 65536) ≤ 200000 * cnt.cntL (kids.take (k + 1)) - 65536 * (k + 1)) := by show _ ≤ _; omega
      clear hp1 hp2 hp3
      have hk8 : k + 1 ≤ 1000000000000 := by have := len_le_cntL kids; omega
      clear em lm hcs hle hcc
      refine (IH.out k hkk (Cp k) _ { M with v := v' } ns' dn' (BS.out.1.alloc BS.out.1.size _) BS.out.2 (K1.out.st.alloc _) ((fault_zero HFA.out).2 k hkk) harith).mono ?_
      rintro e w2 ⟨ns2, r, dn2, v2, rfl, ext2, rf2, tb2, st2, sp2⟩
      have K2 := Lib.hid ((K1.out.alloc _).call ext2 st2 sp2)
      have RF := Lib.hid rf2
      have TB := Lib.hid tb2
      clear ext2 rf2 tb2 st2 sp2 harith BS
      go_wp2_with (at_builtin; refine wpList_append_lies _ rfl _ _ 53 rfl (w.heap.size + 1) 3 i0 (.int .i64 0) 1 8 Try.underlying53 hi0 hz0 hz1 hz2 rfl (by omega) (.slice ao k cp) k (rs.map (Value.int .i64)) rfl (K2.out.row.alloc _) ⟨w2.heap.size, 0, none⟩ 1 1 [.int .i64 r] rfl rfl (World.news_of_block (cs := #[.int .i64 r]) (t := 3) (fr := (0, 0)) (heap_alloc_new w2 _)) (by simp [Value.oneCell']) (by omega) (by unfold maxLen; omega) (by omega) (by have := lt_of_some K2.out.box; simp; omega) (w2.heap.size + 1) (by simp) ?_; intro g2 cap2 w3 hown3 hgrow3 hat3 hlt3; have KP := Lib.hid (K2.out.push (w2 := w3) RF.out (by rw [List.getD_eq_getElem?_getD, List.getElem?_eq_getElem hkk]; exact TB.out) hown3 hgrow3 hat3); clear hown3 hgrow3 hat3 hlt3)
      go_roundw
      case rel => exact ⟨k + 1, _, _, ns2, dn2, v2, rs ++ [r], by omega, by go_num, rfl, KP.out.le hg2.out⟩
      case measure => simp [intOf]; omega
    · obtain rfl : k = kids.length := by omega
      have b0 : wr.cell? ⟨w.heap.size, 0, none⟩ = some (.int .i64 op) := by simp [World.cell?, K1.out.box]
      have b1 : wr.cell? ⟨w.heap.size, 1, none⟩ = some (.int .i64 var) := by simp [World.cell?, K1.out.box]
      have hbx := lt_of_some K1.out.box
      have htk : kids.take kids.length = kids := List.take_of_length_le (Nat.le_refl _)
      rw [htk] at K1
      clear htk
      have hcc : cnt (.mk op var kids) = 1 + cnt.cntL kids := rfl
      have hlc := len_le_cntL kids
      obtain ⟨ms, em, lm⟩ := K1.out.ext
      have hnl : ns'.length + 200000 + 65536 * kids.length ≤ 1000000000000 := by rw [em, List.length_append]; omega
      clear em lm
      have HCC := Lib.hid hcc; clear hcc
      rcases own_zero (fault_zero HFA.out).1 with ⟨hop, hn, hv0, hv1⟩ | ⟨hop, hn, hv0, hv1⟩ | ⟨hop, hn⟩ | hop | hop | ⟨hop, hn⟩ | ⟨hop, hn⟩
      · -- a variable
        have t1 : (op == 1) = true := by simp [hop]
        have HOP := Lib.hid hop; clear hop hn
        go_wp2_with fail
        refine (node_tab K1.out.st hv0 (by omega) (by omega)).mono ?_
        rintro e w2 hp
        have hp2 := K1.out.done hp (G' := 200000 * cnt (.mk op var kids) - 65536) (by rw [HCC.out]; omega)
        obtain ⟨ns2, r, dn2, v2, rfl, hp3⟩ := hp2
        have HP := Lib.hid hp3; clear hp3 hp
        go_wp2_with fail
        go_ret
        exact RPost.congr ⟨ns2, r, dn2, v2, rfl, HP.out⟩ (fun x _ => by rw [HOP.out, evF_var])
      · -- a constant
        have t1 : (op == 1) = false := by simp [hop]
        have t2 : (op == 2) = true := by simp [hop]
        have HOP := Lib.hid hop; clear hop hn
        rcases (by omega : var = 0 ∨ var = 1) with rfl | rfl
        · go_wp2_with fail
          go_ret
          exact RPost.congr (f := fun _ => false) ((K1.out.alloc _).done (g := 0) ⟨ns', -1, dn', v', rfl, ⟨[], by simp, by simp⟩, ref_false _, tab_false _, K1.out.st.alloc _, Step.refl _ _⟩ (by rw [HCC.out]; omega)) (fun x _ => by rw [HOP.out, evF_const]; rfl)
        · go_wp2_with fail
          go_ret
          exact RPost.congr (f := fun _ => true) ((K1.out.alloc _).done (g := 0) ⟨ns', -2, dn', v', rfl, ⟨[], by simp, by simp⟩, ref_true _, tab_true _, K1.out.st.alloc _, Step.refl _ _⟩ (by rw [HCC.out]; omega)) (fun x _ => by rw [HOP.out, evF_const]; rfl)
      · -- a negation
        have t1 : (op == 1) = false := by simp [hop]
        have t2 : (op == 2) = false := by simp [hop]
        have t3 : (op == 3) = true := by simp [hop]
        obtain ⟨g, rfl, hcs⟩ := K1.out.cells (by omega)
        have q0 := hcs 0 (by omega)
        have R0 := Lib.hid (K1.out.refs 0 (by omega))
        have hi1 : (0 : Int) < (kids.length : Int) := by omega
        have hi1n : 0 < kids.length := by omega
        have HN := Lib.hid hn
        have HOP := Lib.hid hop; clear hop hn hcs
        generalize rs.getD 0 0 = r0 at *
        go_wp2_with fail
        refine (not_any K1.out.st R0.out.1 R0.out.2 (by omega)).mono ?_
        rintro e w2 hp
        have hp2 := K1.out.done hp (G' := 200000 * cnt (.mk op var kids) - 65536) (by rw [HCC.out]; omega)
        obtain ⟨ns2, r, dn2, v2, rfl, hp3⟩ := hp2
        have HP := Lib.hid hp3; clear hp3 hp
        go_wp2_with fail
        go_ret
        exact RPost.congr ⟨ns2, r, dn2, v2, rfl, HP.out⟩ (fun x _ => by rw [HOP.out, evF_not _ _ _ (by rw [HN.out]; omega)])
      · -- and
        have t1 : (op == 1) = false := by simp [hop]
        have t2 : (op == 2) = false := by simp [hop]
        have t3 : (op == 3) = false := by simp [hop]
        have t6 : (op == 6) = false := by simp [hop]
        have t7 : (op == 7) = false := by simp [hop]
        have t5 : (op == 5) = false := by simp [hop]
        have HOP := Lib.hid hop; clear hop
        go_wp2_with fail
        go_loopw [8, 80] (fun ov i w2 => LR w M ns kids (.cells #[.int .i64 op, .int .i64 var, .slice a kids.length cap] 24) ao cp (200000 * cnt.cntL kids - 65536 * kids.length) rs (fun k x => (kids.take k).all fun f => evF f x) ov i w2) (fun _ i _ => kids.length - (intOf i).toNat)
        case atStart => exact ⟨0, -2, ns', dn', v', Nat.zero_le _, rfl, rfl, by simpa using K1.out, ref_true _, (tab_true _).congr (fun x _ => by simp)⟩
        case round =>
          obtain ⟨k, r, ns2, dn2, v2, hkl, rfl, rfl, ki, rf, tbl⟩ := hrel
          have K2 := Lib.hid ki; clear ki
          have TB := Lib.hid tbl; clear tbl
          have nl2 : ns2.length + 65536 ≤ 1000000000000 := by
            obtain ⟨ms, em, lm⟩ := K2.out.ext
            rw [em, List.length_append]; rw [HCC.out] at hcnt; omega
          by_cases hkk : k < kids.length
          · obtain ⟨g, hao, hcs⟩ := K2.out.cells (by omega)
            subst hao
            have q0 := hcs k hkk
            have R0 := Lib.hid (K2.out.refs k hkk)
            clear hcs
            generalize rs.getD k 0 = r0 at *
            go_wp2_with fail
            refine (and_any K2.out.st rf R0.out.1 TB.out R0.out.2 nl2).mono ?_
            rintro e w3 ⟨ns3, r3, dn3, v3, rfl, ext3, rf3, tb3, st3, sp3⟩
            have K3 := Lib.hid (K2.out.call ext3 st3 sp3)
            have T3 := Lib.hid tb3
            clear ext3 tb3 st3 sp3
            go_wp2_with fail
            go_roundw
            case rel => exact ⟨k + 1, r3, ns3, dn3, v3, by omega, by go_num, rfl, K3.out.le (by omega), rf3, T3.out.congr (fun x _ => all_snoc kids k hkk fun f => evF f x)⟩
            case measure => simp [intOf]; omega
          · obtain rfl : k = kids.length := by omega
            go_wp2_with fail
            go_ret
            exact RPost.congr (K2.out.done (g := 0) ⟨ns2, r, dn2, v2, rfl, ⟨[], by simp, by simp⟩, rf, TB.out, K2.out.st, Step.refl _ _⟩ (by rw [HCC.out]; omega)) (fun x _ => by rw [HOP.out, evF_and, List.take_of_length_le (Nat.le_refl _)])
      · -- or
        have t1 : (op == 1) = false := by simp [hop]
        have t2 : (op == 2) = false := by simp [hop]
        have t3 : (op == 3) = false := by simp [hop]
        have t6 : (op == 6) = false := by simp [hop]
        have t7 : (op == 7) = false := by simp [hop]
        have t5 : (op == 5) = true := by simp [hop]
        have HOP := Lib.hid hop; clear hop
        go_wp2_with fail
        go_loopw [8, 80] (fun ov i w2 => LR w M ns kids (.cells #[.int .i64 op, .int .i64 var, .slice a kids.length cap] 24) ao cp (200000 * cnt.cntL kids - 65536 * kids.length) rs (fun k x => (kids.take k).any fun f => evF f x) ov i w2) (fun _ i _ => kids.length - (intOf i).toNat)
        case atStart => exact ⟨0, -1, ns', dn', v', Nat.zero_le _, rfl, rfl, by simpa using K1.out, ref_false _, (tab_false _).congr (fun x _ => by simp)⟩
        case round =>
          obtain ⟨k, r, ns2, dn2, v2, hkl, rfl, rfl, ki, rf, tbl⟩ := hrel
          have K2 := Lib.hid ki; clear ki
          have TB := Lib.hid tbl; clear tbl
          have nl2 : ns2.length + 65536 ≤ 1000000000000 := by
            obtain ⟨ms, em, lm⟩ := K2.out.ext
            rw [em, List.length_append]; rw [HCC.out] at hcnt; omega
          by_cases hkk : k < kids.length
          · obtain ⟨g, hao, hcs⟩ := K2.out.cells (by omega)
            subst hao
            have q0 := hcs k hkk
            have R0 := Lib.hid (K2.out.refs k hkk)
            clear hcs
            generalize rs.getD k 0 = r0 at *
            go_wp2_with fail
            refine (or_any K2.out.st rf R0.out.1 TB.out R0.out.2 nl2).mono ?_
            rintro e w3 ⟨ns3, r3, dn3, v3, rfl, ext3, rf3, tb3, st3, sp3⟩
            have K3 := Lib.hid (K2.out.call ext3 st3 sp3)
            have T3 := Lib.hid tb3
            clear ext3 tb3 st3 sp3
            go_wp2_with fail
            go_roundw
            case rel => exact ⟨k + 1, r3, ns3, dn3, v3, by omega, by go_num, rfl, K3.out.le (by omega), rf3, T3.out.congr (fun x _ => any_snoc kids k hkk fun f => evF f x)⟩
            case measure => simp [intOf]; omega
          · obtain rfl : k = kids.length := by omega
            go_wp2_with fail
            go_ret
            exact RPost.congr (K2.out.done (g := 0) ⟨ns2, r, dn2, v2, rfl, ⟨[], by simp, by simp⟩, rf, TB.out, K2.out.st, Step.refl _ _⟩ (by rw [HCC.out]; omega)) (fun x _ => by rw [HOP.out, evF_or, List.take_of_length_le (Nat.le_refl _)])
      · -- xor
        have t1 : (op == 1) = false := by simp [hop]
        have t2 : (op == 2) = false := by simp [hop]
        have t3 : (op == 3) = false := by simp [hop]
        have t6 : (op == 6) = true := by simp [hop]
        obtain ⟨g, rfl, hcs⟩ := K1.out.cells (by omega)
        have q0 := hcs 0 (by omega)
        have q1 := hcs 1 (by omega)
        have R0 := Lib.hid (K1.out.refs 0 (by omega))
        have R1 := Lib.hid (K1.out.refs 1 (by omega))
        have hi1 : (0 : Int) < (kids.length : Int) := by omega
        have hi2 : (1 : Int) < (kids.length : Int) := by omega
        have hi1n : 0 < kids.length := by omega
        have hi2n : 1 < kids.length := by omega
        have HN := Lib.hid hn
        have HOP := Lib.hid hop; clear hop hn hcs
        generalize rs.getD 0 0 = r0 at *
        generalize rs.getD 1 0 = r1 at *
        go_wp2_with fail
        go_still_tail 7, (by kernel_rfl)
        go_wp2_with fail
        refine (xor_any K1.out.drew.st R0.out.1 R1.out.1 R0.out.2 R1.out.2 (by omega)).mono ?_
        rintro e w2 hp
        have hp2 := K1.out.drew.done hp (G' := 200000 * cnt (.mk op var kids) - 65536) (by rw [HCC.out]; omega)
        obtain ⟨ns2, r, dn2, v2, rfl, hp3⟩ := hp2
        have HP := Lib.hid hp3; clear hp3 hp
        go_wp2_with fail
        go_ret
        exact RPost.congr ⟨ns2, r, dn2, v2, rfl, HP.out⟩ (fun x _ => by rw [HOP.out, evF_xor _ _ _ (by rw [HN.out]; omega)])
      · -- ite
        have t1 : (op == 1) = false := by simp [hop]
        have t2 : (op == 2) = false := by simp [hop]
        have t3 : (op == 3) = false := by simp [hop]
        have t6 : (op == 6) = false := by simp [hop]
        have t7 : (op == 7) = true := by simp [hop]
        obtain ⟨g, rfl, hcs⟩ := K1.out.cells (by omega)
        have q0 := hcs 0 (by omega)
        have q1 := hcs 1 (by omega)
        have q2 := hcs 2 (by omega)
        have R0 := Lib.hid (K1.out.refs 0 (by omega))
        have R1 := Lib.hid (K1.out.refs 1 (by omega))
        have R2 := Lib.hid (K1.out.refs 2 (by omega))
        have hi1 : (0 : Int) < (kids.length : Int) := by omega
        have hi2 : (1 : Int) < (kids.length : Int) := by omega
        have hi3 : (2 : Int) < (kids.length : Int) := by omega
        have hi1n : 0 < kids.length := by omega
        have hi2n : 1 < kids.length := by omega
        have hi3n : 2 < kids.length := by omega
        have HN := Lib.hid hn
        have HOP := Lib.hid hop; clear hop hn hcs
        generalize rs.getD 0 0 = r0 at *
        generalize rs.getD 1 0 = r1 at *
        generalize rs.getD 2 0 = r2 at *
        go_wp2_with fail
        go_still_tail 10, (by kernel_rfl)
        go_wp2_with fail
        refine (ite_tab K1.out.drew.st R0.out.1 R1.out.1 R2.out.1 R0.out.2 R1.out.2 R2.out.2 (by omega)).mono ?_
        rintro e w2 hp
        have hp2 := K1.out.drew.done hp (G' := 200000 * cnt (.mk op var kids) - 65536) (by rw [HCC.out]; omega)
        obtain ⟨ns2, r, dn2, v2, rfl, hp3⟩ := hp2
        have HP := Lib.hid hp3; clear hp3 hp
        go_wp2_with fail
        go_ret
        exact RPost.congr ⟨ns2, r, dn2, v2, rfl, HP.out⟩ (fun x _ => by rw [HOP.out, evF_ite _ _ _ (by rw [HN.out]; omega)])

end Go.Proofs.Ythhogbligfmpdaa

/- The diagram of a node on its way, in memory. -/
namespace Go.Proofs.Ythhogbligfmpdaa
open Go.RowKit Bd

/-- What a step may turn: blocks for which fx holds, and the row of a slice, which may move to a new block. -/
structure FS (fx : Nat → Prop) (w : World) (v : Value) (w' : World) (v' : Value) : Prop where
  os : w'.os = w.os
  tape : w'.tape = w.tape
  output : w'.output = w.output
  size : w.heap.size ≤ w'.heap.size
  keep : ∀ k, k < w.heap.size → ¬ fx k → v.ownBlock ≠ some k → w'.heap[k]? = w.heap[k]?
  loc : ∀ g, v'.ownBlock = some g → v.ownBlock = some g ∨ w.heap.size ≤ g

theorem FS.refl (fx : Nat → Prop) (w : World) (v : Value) : FS fx w v w v := ⟨rfl, rfl, rfl, Nat.le_refl _, fun _ _ _ _ => rfl, fun _ h => Or.inl h⟩
theorem FS.alloc (fx : Nat → Prop) (w : World) (v : Value) (o : Obj) : FS fx w v (w.alloc o) v := ⟨rfl, rfl, rfl, by simp, fun k hk _ _ => Below.heap_alloc w o k hk, fun _ h => Or.inl h⟩
theorem FS.drew (fx : Nat → Prop) (w : World) (v : Value) : FS fx w v w.drew v := ⟨rfl, rfl, rfl, Nat.le_refl _, fun _ _ _ _ => rfl, fun _ h => Or.inl h⟩
theorem FS.trans {fx : Nat → Prop} {w w1 w2 : World} {v v1 v2 : Value} (h : FS fx w v w1 v1) (k : FS fx w1 v1 w2 v2) : FS fx w v w2 v2 := by
  refine ⟨k.os.trans h.os, k.tape.trans h.tape, k.output.trans h.output, Nat.le_trans h.size k.size, ?_, ?_⟩
  · intro j hj hf hv
    rw [k.keep j (Nat.lt_of_lt_of_le hj h.size) hf ?_, h.keep j hj hf hv]
    intro e
    rcases h.loc j e with e' | e'
    · exact hv e'
    · omega
  · intro g hg
    rcases k.loc g hg with e | e
    · exact h.loc g e
    · exact Or.inr (Nat.le_trans h.size e)

/-- Where the closure's variables lie: number, walk, m, out; the map; the slice of the nodes that are made. -/
structure DL where
  bn : Nat
  bw : Nat
  bv : Nat
  bo : Nat
  bm : Nat
  v : Value

def DL.fx (D : DL) (k : Nat) : Prop := k = D.bo ∨ k = D.bm
def numL (L : List Int) : List (Int × Int) := L.zipIdx.map fun p => (p.1, (p.2 : Int))

theorem lookN_zip (x : Int) : ∀ (l : List Int) (k : Nat), ((l.zipIdx k).map fun p => (p.1, (p.2 : Int))).lookup x = if x ∈ l then some ((l.idxOf x + k : Nat) : Int) else none
  | [], k => by simp
  | y :: l, k => by
    have ih := lookN_zip x l (k + 1)
    simp only [List.zipIdx_cons, List.map_cons, List.lookup_cons, List.mem_cons, List.idxOf_cons]
    by_cases e : x = y
    · subst e; simp
    · rw [beq_eq_false_iff_ne.2 e, ih, beq_eq_false_iff_ne.2 (Ne.symm e)]
      by_cases hm : x ∈ l
      · simp only [hm, e, or_true, if_true]; congr 1; simp; omega
      · simp [hm, e]
theorem look_numL (x : Int) (L : List Int) : (numL L).lookup x = if x ∈ L then some ((L.idxOf x : Nat) : Int) else none := lookN_zip x L 0
theorem numL_push (L : List Int) (x : Int) : numL (L ++ [x]) = numL L ++ [(x, (L.length : Int))] := by simp [numL, List.zipIdx_append]

structure DG (w : World) (M : ML) (ns : List Nd) (dn : List (Nd × Int)) (D : DL) (L : List Int) (O : List Nd) (rt : Int) : Prop where
  mgr : Mgr w M ns dn
  cn : w.heap[D.bn]? = some (.cells #[.map (some D.bm)] 109 (0, 0))
  cw : w.heap[D.bw]? = some (.cells #[.func (.func 88) #[] #[.pointer (some ⟨D.bn, 0, none⟩), .pointer (some ⟨D.bw, 0, none⟩), .pointer (some ⟨D.bv, 0, none⟩), .pointer (some ⟨D.bo, 0, none⟩)]] 75 (0, 0))
  cv : w.heap[D.bv]? = some (.cells #[.pointer (some ⟨M.b, 0, none⟩)] 64 (0, 0))
  co : w.heap[D.bo]? = some (.cells #[D.v, .int .i64 rt] 27 (0, 0))
  row : w.ownsRow 0 77 3 D.v O.length (nsC O)
  map : mapIs inV w D.bm (numL L)
  far : ∀ k, (k = D.bo ∨ k = D.bm ∨ D.v.ownBlock = some k) → ¬ M.foot k

section
variable {w : World} {M : ML} {ns : List Nd} {dn : List (Nd × Int)} {D : DL} {L : List Int} {O : List Nd} {rt : Int}

theorem DG.row_block (h : DG w M ns dn D L O rt) {g : Nat} (hg : D.v.ownBlock = some g) : ∃ cur, w.heap[g]? = some (.cells cur 77 (0, 0)) := by
  rcases h.row.2 with ⟨h1, _⟩ | ⟨g', cap, cur, hv, _, hb, _⟩
  · rw [h1] at hg; simp [Value.ownBlock] at hg
  · rw [hv] at hg
    simp only [Value.ownBlock, Option.some.injEq] at hg
    subst hg
    exact ⟨cur, hb⟩

theorem DG.sl (h : DG w M ns dn D L O rt) : ∃ a cap, D.v = .slice a O.length cap := by
  rcases h.row.2 with ⟨h1, h2⟩ | ⟨g, cap, cur, hv, _⟩
  · exact ⟨none, 0, by rw [h1, h2]⟩
  · exact ⟨_, cap, hv⟩

/-- All that must stay where it is, by the kinds of the blocks. -/
theorem DG.apart (h : DG w M ns dn D L O rt) : D.v.ownBlock ≠ some D.bn ∧ D.v.ownBlock ≠ some D.bw ∧ D.v.ownBlock ≠ some D.bv ∧ D.v.ownBlock ≠ some D.bo ∧ D.v.ownBlock ≠ some D.bm ∧ D.bo ≠ D.bn ∧ D.bo ≠ D.bw ∧ D.bo ≠ D.bv ∧ D.bm ≠ D.bn ∧ D.bm ≠ D.bw ∧ D.bm ≠ D.bv ∧ D.bm ≠ D.bo := by
  have h1 := h.cn
  have h2 := h.cw
  have h3 := h.cv
  have h4 := h.co
  obtain ⟨_, _, h5, _⟩ := h.map
  refine ⟨fun e => ?_, fun e => ?_, fun e => ?_, fun e => ?_, fun e => ?_, fun e => ?_, fun e => ?_, fun e => ?_, fun e => ?_, fun e => ?_, fun e => ?_, fun e => ?_⟩
  · obtain ⟨cur, hr⟩ := h.row_block e; rw [h1] at hr; simp at hr
  · obtain ⟨cur, hr⟩ := h.row_block e; rw [h2] at hr; simp at hr
  · obtain ⟨cur, hr⟩ := h.row_block e; rw [h3] at hr; simp at hr
  · obtain ⟨cur, hr⟩ := h.row_block e; rw [h4] at hr; simp at hr
  · obtain ⟨cur, hr⟩ := h.row_block e; rw [h5] at hr; simp at hr
  · rw [← e, h4] at h1; simp at h1
  · rw [← e, h4] at h2; simp at h2
  · rw [← e, h4] at h3; simp at h3
  · rw [← e, h5] at h1; simp at h1
  · rw [← e, h5] at h2; simp at h2
  · rw [← e, h5] at h3; simp at h3
  · rw [← e, h5] at h4; simp at h4

theorem DG.of_blocks {w' : World} (h : DG w M ns dn D L O rt) (hb : ∀ k, k < w.heap.size → w'.heap[k]? = w.heap[k]?) : DG w' M ns dn D L O rt := by
  refine ⟨h.mgr.of_blocks fun k hk => hb k (h.mgr.lt hk), (hb _ (lt_of_some h.cn)).trans h.cn, (hb _ (lt_of_some h.cw)).trans h.cw, (hb _ (lt_of_some h.cv)).trans h.cv, (hb _ (lt_of_some h.co)).trans h.co,
    ownsRow_of_block h.row fun g hg => hb g (h.row.lt g hg).2, h.map.of_block (hb _ ?_), h.far⟩
  obtain ⟨_, _, h5, _⟩ := h.map
  exact lt_of_some h5
theorem DG.drew (h : DG w M ns dn D L O rt) : DG w.drew M ns dn D L O rt := h.of_blocks fun _ _ => rfl
theorem DG.drewN (h : DG w M ns dn D L O rt) (n : Nat) : DG (w.drewN n) M ns dn D L O rt := h.of_blocks fun _ _ => rfl
theorem DG.alloc (h : DG w M ns dn D L O rt) (o : Obj) : DG (w.alloc o) M ns dn D L O rt := h.of_blocks fun k hk => Below.heap_alloc w o k hk
end

/-- The variable 'out' behind the append to its nodes. -/
theorem DG.co_grown {w w3 : World} {M : ML} {ns : List Nd} {dn : List (Nd × Int)} {D : DL} {L : List Int} {O : List Nd} {rt : Int} (h : DG w M ns dn D L O rt) {o : Obj} (hg : ((w.alloc o).drew).grownBy w3 D.v.ownBlock) : w3.heap[D.bo]? = some (.cells #[D.v, .int .i64 rt] 27 (0, 0)) := by
  have hlt := lt_of_some h.co
  rw [hg.block D.bo (by simp; omega) (fun e => h.apart.2.2.2.1 e.symm)]
  exact (Below.heap_alloc w o D.bo hlt).trans h.co

theorem dg_pushed {w w3 : World} {M : ML} {ns : List Nd} {dn : List (Nd × Int)} {D : DL} {L : List Int} {O : List Nd} {rt : Int} {x : Nd} {o : Obj} {gg cap1 : Nat} (h : DG w M ns dn D L O rt) (hg : ((w.alloc o).drew).grownBy w3 D.v.ownBlock)
    (hown : w3.ownsRow 0 77 3 (.slice (some ⟨gg, 0, none⟩) (O.length + 1) cap1) (O.length + 1) (nsC O ++ [.int .i64 x.1, .int .i64 x.2.1, .int .i64 x.2.2])) (hat : D.v.ownBlock = some gg ∨ gg = w.heap.size + 1) :
    DG (w3.setCell ⟨D.bo, 0, none⟩ (.slice (some ⟨gg, 0, none⟩) (O.length + 1) cap1)) M ns dn { D with v := .slice (some ⟨gg, 0, none⟩) (O.length + 1) cap1 } L (O ++ [x]) rt ∧
    FS D.fx w D.v (w3.setCell ⟨D.bo, 0, none⟩ (.slice (some ⟨gg, 0, none⟩) (O.length + 1) cap1)) (.slice (some ⟨gg, 0, none⟩) (O.length + 1) cap1) := by
  have hsz := hg.size
  simp at hsz
  have hco := h.co_grown hg
  have hap := h.apart
  have hlt := lt_of_some h.co
  have hne : gg ≠ D.bo := by
    rcases hat with e | e
    · intro e2; subst e2; exact hap.2.2.2.1 e
    · omega
  have oth : ∀ k, k ≠ D.bo → (w3.setCell ⟨D.bo, 0, none⟩ (.slice (some ⟨gg, 0, none⟩) (O.length + 1) cap1)).heap[k]? = w3.heap[k]? := fun k hk => Below.heap_setCell _ _ _ _ hk
  have old : ∀ k, k < w.heap.size → k ≠ D.bo → D.v.ownBlock ≠ some k → (w3.setCell ⟨D.bo, 0, none⟩ (.slice (some ⟨gg, 0, none⟩) (O.length + 1) cap1)).heap[k]? = w.heap[k]? := by
    intro k hk hkb hkr
    rw [oth k hkb, hg.block k (by simp; omega) (fun e => hkr e.symm)]
    exact Below.heap_alloc w o k hk
  have hmlt : D.bm < w.heap.size := by obtain ⟨_, _, h5, _⟩ := h.map; exact lt_of_some h5
  refine ⟨⟨?_, ?_, ?_, ?_, ?_, ?_, ?_, ?_⟩, ⟨hg.os, hg.tape, hg.output, ?_, ?_, ?_⟩⟩
  · refine h.mgr.of_blocks fun k hk => old k (h.mgr.lt hk) (fun e => h.far k (Or.inl e) hk) (fun e => h.far k (Or.inr (Or.inr e)) hk)
  · exact (old _ (lt_of_some h.cn) (Ne.symm hap.2.2.2.2.2.1) hap.1).trans h.cn
  · exact (old _ (lt_of_some h.cw) (Ne.symm hap.2.2.2.2.2.2.1) hap.2.1).trans h.cw
  · exact (old _ (lt_of_some h.cv) (Ne.symm hap.2.2.2.2.2.2.2.1) hap.2.2.1).trans h.cv
  · have := setCell_block (w := w3) (a := ⟨D.bo, 0, none⟩) (u := .slice (some ⟨gg, 0, none⟩) (O.length + 1) cap1) hco rfl
    simpa using this
  · have e1 : nsC (O ++ [x]) = nsC O ++ [.int .i64 x.1, .int .i64 x.2.1, .int .i64 x.2.2] := by rw [nsC_append]; rfl
    rw [e1, List.length_append]
    exact ownsRow_of_block hown fun g hg' => by
      simp only [Value.ownBlock, Option.some.injEq] at hg'
      subst hg'
      exact oth gg hne
  · exact h.map.of_block (old _ hmlt hap.2.2.2.2.2.2.2.2.2.2.2 hap.2.2.2.2.1)
  · rintro k (e | e | e)
    · exact h.far k (Or.inl e)
    · exact h.far k (Or.inr (Or.inl e))
    · simp only [Value.ownBlock, Option.some.injEq] at e
      subst e
      rcases hat with e | e
      · exact h.far _ (Or.inr (Or.inr e))
      · intro hf
        have := h.mgr.lt hf
        omega
  · show w.heap.size ≤ (w3.setCell _ _).heap.size
    simp [World.setCell]; omega
  · intro k hk hf hv
    exact old k hk (fun e => hf (Or.inl e)) hv
  · intro g hg'
    simp only [Value.ownBlock, Option.some.injEq] at hg'
    subst hg'
    rcases hat with e | e
    · exact Or.inl e
    · exact Or.inr (by omega)

theorem dg_numbered {w : World} {M : ML} {ns : List Nd} {dn : List (Nd × Int)} {D : DL} {L L' : List Int} {O : List Nd} {rt : Int} {ob : Obj} (h : DG w M ns dn D L O rt) (hm : mapIs inV (ChangeMaps.setBlock w D.bm ob) D.bm (numL L')) :
    DG (ChangeMaps.setBlock w D.bm ob) M ns dn D L' O rt ∧ FS D.fx w D.v (ChangeMaps.setBlock w D.bm ob) D.v := by
  have hap := h.apart
  refine ⟨⟨?_, (setBlock_other (Ne.symm hap.2.2.2.2.2.2.2.2.1)).trans h.cn, (setBlock_other (Ne.symm hap.2.2.2.2.2.2.2.2.2.1)).trans h.cw, (setBlock_other (Ne.symm hap.2.2.2.2.2.2.2.2.2.2.1)).trans h.cv, (setBlock_other (Ne.symm hap.2.2.2.2.2.2.2.2.2.2.2)).trans h.co, ?_, hm, h.far⟩, ⟨rfl, rfl, rfl, by simp [ChangeMaps.setBlock], ?_, fun _ h => Or.inl h⟩⟩
  · exact h.mgr.of_blocks fun k hk => setBlock_other (fun e => h.far k (Or.inr (Or.inl e)) hk)
  · exact ownsRow_of_block h.row fun g hg => setBlock_other (fun e => hap.2.2.2.2.1 (e ▸ hg))
  · exact fun k _ hf _ => setBlock_other (fun e => hf (Or.inr e))

/-- What the walk from a node comes to. -/
def DPost (N : Nat) (w : World) (M : ML) (ns : List Nd) (dn : List (Nd × Int)) (D : DL) (L : List Int) (rt a : Int) (e : Ending) (w' : World) : Prop :=
  ∃ v' L' O', e = .returned (.int .i64 (rf (L'.map (key ns)) N (tb ns N a))) ∧ DG w' M ns dn { D with v := v' } L' O' rt ∧ WS ns L' O' ∧ L'.map (key ns) = dfs N (tb ns N a) (L.map (key ns)) ∧ FS D.fx w D.v w' v'

set_option maxRecDepth 100000 in
set_option maxHeartbeats 400000 in
theorem walk_neg (a : Int) (x y z u : Value) (w : World) (h : a < 0) :
    Calls Try.prog 88 #[.int .i64 a, x, y, z, u] w fun e w' => e = .returned (.int .i64 a) ∧ w = w' := by
  go_enter Try.func88, Try.ntmps88
  go_wp2_with fail
  go_ret
  exact ⟨rfl, rfl⟩

set_option maxRecDepth 100000 in
set_option maxHeartbeats 400000 in
theorem walk_known {w : World} {M : ML} {ns : List Nd} {dn : List (Nd × Int)} {D : DL} {L : List Int} {O : List Nd} {rt : Int} (h : DG w M ns dn D L O rt) (a : Int) (h0 : 0 ≤ a) (hm : a ∈ L) :
    Calls Try.prog 88 #[.int .i64 a, .pointer (some ⟨D.bn, 0, none⟩), .pointer (some ⟨D.bw, 0, none⟩), .pointer (some ⟨D.bv, 0, none⟩), .pointer (some ⟨D.bo, 0, none⟩)] w fun e w' => e = .returned (.int .i64 (L.idxOf a : Nat)) ∧ w = w' := by
  have hl : (Instr.lookup 109 (.map (some D.bm)) (.int .i64 a) true).run Try.prog w = .ok (.tuple #[.int .i64 (L.idxOf a : Nat), .bool true]) w := by
    have := h.map.look key3 Try.underlying109 a
    rw [look_numL, if_pos hm] at this
    exact this
  have c1 : w.cell? ⟨D.bn, 0, none⟩ = some (.map (some D.bm)) := by simp [World.cell?, h.cn]
  have H := Lib.hid h; clear h
  have HM := Lib.hid hm; clear hm
  go_enter Try.func88, Try.ntmps88
  go_wp2_with fail
  go_ret
  exact ⟨rfl, rfl⟩

end Go.Proofs.Ythhogbligfmpdaa

/- The walk from a node that is not finished yet. -/
namespace Go.Proofs.Ythhogbligfmpdaa
open Go.RowKit Bd

theorem DG.reads {w : World} {M : ML} {ns : List Nd} {dn : List (Nd × Int)} {D : DL} {L : List Int} {O : List Nd} {rt : Int} (h : DG w M ns dn D L O rt) {gm mcap i : Nat} (hv : M.v = .slice (some ⟨gm, 0, none⟩) ns.length mcap) (hi : i < ns.length) :
    w.cell? ⟨D.bn, 0, none⟩ = some (.map (some D.bm)) ∧
    w.cell? ⟨D.bw, 0, none⟩ = some (.func (.func 88) #[] #[.pointer (some ⟨D.bn, 0, none⟩), .pointer (some ⟨D.bw, 0, none⟩), .pointer (some ⟨D.bv, 0, none⟩), .pointer (some ⟨D.bo, 0, none⟩)]) ∧
    w.cell? ⟨D.bv, 0, none⟩ = some (.pointer (some ⟨M.b, 0, none⟩)) ∧ w.cell? ⟨M.b, 0, none⟩ = some (.slice (some ⟨gm, 0, none⟩) ns.length mcap) ∧
    w.cell? ⟨gm, i * 3, none⟩ = some (.int .i64 (nd ns i).1) ∧ w.cell? ⟨gm, i * 3 + 1, none⟩ = some (.int .i64 (lo ns i)) ∧ w.cell? ⟨gm, i * 3 + 2, none⟩ = some (.int .i64 (Bd.hi ns i)) := by
  obtain ⟨g', c', hv', m0, m1, m2⟩ := h.mgr.at hi
  rw [hv] at hv'
  simp only [Value.slice.injEq, Option.some.injEq, Addr.mk.injEq, and_true, true_and] at hv'
  obtain ⟨rfl, rfl⟩ := hv'
  have hmc := h.mgr.c0
  rw [hv] at hmc
  exact ⟨by simp [World.cell?, h.cn], by simp [World.cell?, h.cw], by simp [World.cell?, h.cv], hmc, m0, m1, m2⟩

theorem add_le_of {a p q : Nat} (h : a + (p + p) ≤ 1000000) (hq : q ≤ p) : a + q ≤ 1000000 := by omega
theorem add_le_of2 {a c p q : Nat} (h : a + (p + p) ≤ 1000000) (hq : q ≤ p) (hc : c + 1 ≤ a + p) : c + q ≤ 1000000 := by omega
theorem add_le_of3 {a c d p : Nat} (h : a + (p + p) ≤ 1000000) (hc : c + 1 ≤ a + p) (hd : d + 1 ≤ c + p) : d + 1 ≤ 1000000 := by omega
theorem lens2 {ns : List Nd} {L L1 : List Int} {N : Nat} (o : Ord ns) (hN : 16 ≤ N) {r a : Int} (hr : Ref ns a) (h1 : lev ns a < lev ns r) (e : L1.map (key ns) = dfs N (tb ns N a) (L.map (key ns))) : L1.length + 1 ≤ L.length + 2 ^ (lev ns r - 1) := by
  have hle := dfs_len (lev ns a) (tb ns (lev ns a) a) (L.map (key ns))
  rw [← dfs_at o hr _ (Nat.le_trans (lev_le o hr) hN), ← e] at hle
  simp only [List.length_map] at hle
  have := pow_mono (show lev ns a ≤ lev ns r - 1 by omega)
  omega
theorem num_look {w : World} {b : Nat} {L2 : List Int} {i m : Nat} (h : mapIs inV w b (numL L2 ++ [((i : Int), (m : Int))])) (hm : m = L2.length) (hn : (i : Int) ∉ L2) :
    (Instr.lookup 109 (.map (some b)) (.int .i64 (i : Int)) false).run Try.prog w = .ok (.int .i64 ((L2.length : Nat) : Int)) w := by
  have := h.look1 key3 Try.underlying109 (i : Int)
  rw [List.lookup_append, look_numL, if_neg hn] at this
  subst hm
  simpa [inV] using this
theorem lens {ns : List Nd} {L L1 : List Int} {N : Nat} (o : Ord ns) (hN : 16 ≤ N) {r a : Int} (hr : Ref ns a) (hl : L.length + 2 ^ lev ns r ≤ 1000000) (h1 : lev ns a < lev ns r) (e : L1.map (key ns) = dfs N (tb ns N a) (L.map (key ns))) : L1.length + 1 ≤ L.length + 2 ^ (lev ns r - 1) := by
  have hle := dfs_len (lev ns a) (tb ns (lev ns a) a) (L.map (key ns))
  rw [← dfs_at o hr _ (Nat.le_trans (lev_le o hr) hN), ← e] at hle
  simp only [List.length_map] at hle
  have := pow_mono (show lev ns a ≤ lev ns r - 1 by omega)
  omega

set_option maxRecDepth 100000 in
set_option maxHeartbeats 1000000 in
theorem walk_new {N : Nat} (hN : 16 ≤ N) {w : World} {M : ML} {ns : List Nd} {dn : List (Nd × Int)} {D : DL} {L : List Int} {O : List Nd} {rt : Int} (h : DG w M ns dn D L O rt) (g : Bd.Good ns) (ws : WS ns L O) (i : Nat) (hr : Ref ns i) (hm : (i : Int) ∉ L) (hlen : L.length + 2 ^ lev ns i ≤ 1000000) (hns : ns.length ≤ 9223372036854775807)
    (ih : ∀ (w : World) (D : DL) (L : List Int) (O : List Nd) (a : Int), a < i → Ref ns a → DG w M ns dn D L O rt → WS ns L O → L.length + 2 ^ lev ns a ≤ 1000000 →
      Calls Try.prog 88 #[.int .i64 a, .pointer (some ⟨D.bn, 0, none⟩), .pointer (some ⟨D.bw, 0, none⟩), .pointer (some ⟨D.bv, 0, none⟩), .pointer (some ⟨D.bo, 0, none⟩)] w (DPost N w M ns dn D L rt a)) :
    Calls Try.prog 88 #[.int .i64 i, .pointer (some ⟨D.bn, 0, none⟩), .pointer (some ⟨D.bw, 0, none⟩), .pointer (some ⟨D.bv, 0, none⟩), .pointer (some ⟨D.bo, 0, none⟩)] w (DPost N w M ns dn D L rt i) := by
  have hl : (Instr.lookup 109 (.map (some D.bm)) (.int .i64 i) true).run Try.prog w = .ok (.tuple #[.int .i64 0, .bool false]) w := by
    have := h.map.look key3 Try.underlying109 i
    rw [look_numL, if_neg hm] at this
    exact this
  have hi : i < ns.length := by have := hr.2; omega
  have IH := Lib.hid ih; clear ih
  obtain ⟨gm, mcap, hmv, _, _, _⟩ := h.mgr.at hi
  have HMV := Lib.hid hmv; clear hmv
  obtain ⟨c1, c2, c3, hmc, m0, m1, m2⟩ := h.reads HMV.out hi
  have hi0 : (0 : Int) ≤ (i : Int) := Int.natCast_nonneg _
  have hi1 : (i : Int) < (ns.length : Int) := by omega
  have H := Lib.hid h; clear h
  have HM := Lib.hid hm; clear hm
  have G := Lib.hid g; clear g
  have WS0 := Lib.hid ws; clear ws
  obtain ⟨hl1, hl2, hl3⟩ := G.out.ord.ref_lo hr hi0
  obtain ⟨hh1, hh2, hh3⟩ := G.out.ord.ref_hi hr hi0
  have tl := G.out.ord.top_lt hl1
  have th := G.out.ord.top_lt hh1
  have tr := G.out.ord.top_lt hr
  have ll : lev ns (lo ns i) < lev ns i := by unfold lev; omega
  have lh : lev ns (Bd.hi ns i) < lev ns i := by unfold lev; omega
  have epw : 2 ^ lev ns i = 2 ^ (lev ns i - 1) + 2 ^ (lev ns i - 1) := by rw [show lev ns i = (lev ns i - 1) + 1 from by omega, Nat.pow_succ]; simp; omega
  have pl := pow_mono (show lev ns (lo ns i) ≤ lev ns i - 1 by omega)
  have ph := pow_mono (show lev ns (Bd.hi ns i) ≤ lev ns i - 1 by omega)
  have b1 : L.length + 2 ^ lev ns (lo ns i) ≤ 1000000 := by rw [epw] at hlen; exact add_le_of hlen pl
  have LL := Lib.hid ll
  have LH := Lib.hid lh
  have EPW := Lib.hid epw
  have PH := Lib.hid ph
  have B1 := Lib.hid b1
  have HLE := Lib.hid hlen
  clear hlen hl3 hh3 tl th tr ll lh epw pl ph b1
  go_enter Try.func88, Try.ntmps88
  go_wp2_with fail
  go_still_tail 9, (by kernel_rfl)
  go_wp2_with fail
  refine (IH.out w.drew D L O _ hl2 hl1 H.out.drew WS0.out B1.out).mono ?_
  rintro e w1 ⟨v1, L1, O1, rfl, dg1, ws1, ek1, fs1⟩
  obtain ⟨x1, x2, x3, xmc, y0, y1, y2⟩ := dg1.reads HMV.out hi
  have DG1 := Lib.hid dg1; clear dg1
  have WS1 := Lib.hid ws1; clear ws1
  have EK1 := Lib.hid ek1; clear ek1
  have FS1 := Lib.hid fs1; clear fs1
  have B2 : Hid (L1.length + 2 ^ lev ns (Bd.hi ns i) ≤ 1000000) := by
    have h1 := HLE.out
    rw [EPW.out] at h1
    exact add_le_of2 h1 PH.out (lens G.out.ord hN hl1 HLE.out LL.out EK1.out)
  clear c1 c2 c3 hmc m0 m1 m2 hl
  go_wp2_with fail
  go_still_tail 9, (by kernel_rfl)
  go_wp2_with fail
  refine (IH.out w1.drew { D with v := v1 } L1 O1 _ hh2 hh1 DG1.out.drew WS1.out B2.out).mono ?_
  rintro e w2 ⟨v2, L2, O2, rfl, dg2, ws2, ek2, fs2⟩
  obtain ⟨z1, z2, z3, zmc, u0, u1, u2⟩ := dg2.reads HMV.out hi
  have DG2 := Lib.hid dg2; clear dg2
  have WS2 := Lib.hid ws2; clear ws2
  have EK2 := Lib.hid ek2; clear ek2
  have FS2 := Lib.hid fs2; clear fs2
  clear x1 x2 x3 xmc y0 y1 y2
  obtain ⟨i0, hi0', hz0, hz1, hz2⟩ := info_parts info77
  obtain ⟨av, cpv, hv2⟩ := DG2.out.sl
  have co2 : w2.cell? ⟨D.bo, 0, none⟩ = some (.slice av O2.length cpv) := by simp [World.cell?, DG2.out.co]; exact hv2
  have HV2 : Hid (v2 = .slice av O2.length cpv) := hv2
  clear hv2
  have lt1 := lt_of_some DG2.out.co
  have lt2 := lt_of_cell u0
  have lt3 := lt_of_cell z3
  have lt4 := lt_of_cell zmc
  have PU := Lib.hid (WS.push hN G.out hr hi0 HM.out WS0.out.refs WS0.out.closed WS1.out EK1.out WS2.out EK2.out)
  have NM := Lib.hid PU.out.1
  have OLL := Lib.hid WS2.out.len
  have OL : Hid (O2.length + 1 ≤ 1000000) := by
    show _ ≤ _
    rw [OLL.out]
    have h1 := HLE.out
    rw [EPW.out] at h1
    exact add_le_of3 h1 (lens G.out.ord hN hl1 HLE.out LL.out EK1.out) (lens2 G.out.ord hN hh1 LH.out EK2.out)
  have row2 : Hid (w2.ownsRow 0 77 3 (.slice av O2.length cpv) O2.length (nsC O2)) := by rw [← HV2.out]; exact DG2.out.row
  generalize rf (L1.map (key ns)) N (tb ns N (lo ns i)) = r1 at *
  generalize rf (L2.map (key ns)) N (tb ns N (Bd.hi ns i)) = r2 at *
  generalize (nd ns i).1 = vr at *
  go_wp2_with fail
  go_region_law (refine step_append_lies _ (by rfl) _ _ _ (by rfl) 0 77 i0 _ 3 24 Try.underlying25 hi0' hz0 hz1 hz2 rfl (by omega) (.slice av O2.length cpv) O2.length (nsC O2) (by rfl) ((row2.out.alloc _).drew) ⟨w2.heap.size, 0, none⟩ 1 1 [.int .i64 vr, .int .i64 r1, .int .i64 r2] (by rfl) (by rfl) (World.news_of_block (cs := #[.int .i64 vr, .int .i64 r1, .int .i64 r2]) (t := 77) (fr := (0, 0)) (heap_alloc_new w2 _)) (by simp [Value.oneCell']) (by omega) (by have := OL.out; unfold maxLen; omega) (by have := OL.out; omega) (by simp) (w2.heap.size + 1) (by simp) ?_; intro gg cap1 w3 hown3 hgrow3 hat3 hlt3; have hco3 := Lib.hid (DG2.out.co_grown (by rw [show ({ D with v := v2 } : DL).v = v2 from rfl, HV2.out]; exact hgrow3)); have cb3 : w3.cell? ⟨D.bo, 0, none⟩ = some v2 := (by simp [World.cell?, hco3.out]); have fb3 : w3.frozen? ⟨D.bo, 0, none⟩ = false := (by simp [World.frozen?, hco3.out]))
  all_goals
    have hp := dg_pushed (x := (vr, r1, r2)) DG2.out (by rw [show ({ D with v := v2 } : DL).v = v2 from rfl, HV2.out]; exact hgrow3) hown3 (by rw [show ({ D with v := v2 } : DL).v = v2 from rfl, HV2.out]; exact hat3)
    obtain ⟨dg4, fs4⟩ := hp
    have e1 : (w3.setCell ⟨D.bo, 0, none⟩ (.slice (some ⟨gg, 0, none⟩) (O2.length + 1) cap1)).cell? ⟨D.bn, 0, none⟩ = some (.map (some D.bm)) := by simp only [World.cell?, dg4.cn]; simp
    have e2 : (w3.setCell ⟨D.bo, 0, none⟩ (.slice (some ⟨gg, 0, none⟩) (O2.length + 1) cap1)).cell? ⟨D.bo, 0, none⟩ = some (.slice (some ⟨gg, 0, none⟩) (O2.length + 1) cap1) := by simp only [World.cell?, dg4.co]; simp
    have DG4 := Lib.hid dg4; clear dg4
    have FS4 := Lib.hid fs4; clear fs4
    clear hown3 hgrow3 hat3 hlt3 hco3 cb3 fb3
    have ol := OL.out
    generalize w3.setCell ⟨D.bo, 0, none⟩ (.slice (some ⟨gg, 0, none⟩) (O2.length + 1) cap1) = w4 at *
    go_wp2_with (at_mapUpdate; refine wpList_mapIs_store key3 Try.underlying109 _ rfl _ _ _ rfl D.bm (numL L2) i O2.length rfl rfl rfl DG4.out.map (by rw [look_numL, if_neg NM.out]) ?_; intro ob hmi; have hlk := num_look hmi OLL.out NM.out; have e3 : (ChangeMaps.setBlock w4 D.bm ob).cell? ⟨D.bn, 0, none⟩ = some (.map (some D.bm)) := (World.cell?_of_block (a := ⟨D.bn, 0, none⟩) (setBlock_other (Ne.symm DG4.out.apart.2.2.2.2.2.2.2.2.1))).trans e1; have HMI := Lib.hid hmi; clear hmi)
    go_ret
    refine ⟨.slice (some ⟨gg, 0, none⟩) (O2.length + 1) cap1, L2 ++ [(i : Int)], O2 ++ [(vr, r1, r2)], ?_, ?_, ?_, ?_, ?_⟩
    · rw [PU.out.2.2.2]; rfl
    · exact (dg_numbered (D := { D with v := .slice (some ⟨gg, 0, none⟩) (O2.length + 1) cap1 }) DG4.out (by rw [numL_push, ← OLL.out]; exact HMI.out)).1
    · exact PU.out.2.1
    · exact PU.out.2.2.1
    · exact (((FS.drew _ _ _).trans FS1.out).trans ((FS.drew _ _ _).trans FS2.out)).trans (FS4.out.trans (dg_numbered (D := { D with v := .slice (some ⟨gg, 0, none⟩) (O2.length + 1) cap1 }) (L' := L2 ++ [(i : Int)]) DG4.out (by rw [numL_push, ← OLL.out]; exact HMI.out)).2)

theorem walk_any {N : Nat} (hN : 16 ≤ N) {M : ML} {ns : List Nd} {dn : List (Nd × Int)} {rt : Int} (g : Bd.Good ns) (hns : ns.length ≤ 9223372036854775807) (k : Nat) : ∀ (w : World) (D : DL) (L : List Int) (O : List Nd) (a : Int), a < k → Ref ns a → DG w M ns dn D L O rt → WS ns L O → L.length + 2 ^ lev ns a ≤ 1000000 →
      Calls Try.prog 88 #[.int .i64 a, .pointer (some ⟨D.bn, 0, none⟩), .pointer (some ⟨D.bw, 0, none⟩), .pointer (some ⟨D.bv, 0, none⟩), .pointer (some ⟨D.bo, 0, none⟩)] w (DPost N w M ns dn D L rt a) := by
  induction k with
  | zero =>
    intro w D L O a ha hr h ws hl
    have hd := dfs_neg hN g.ord hr (by omega : a < 0) (L.map (key ns))
    refine (walk_neg a _ _ _ _ w (by omega)).mono fun e w' ⟨h1, h2⟩ => ?_
    subst h1; subst h2
    exact ⟨D.v, L, O, by rw [hd.2], h, ws, hd.1.symm, FS.refl _ _ _⟩
  | succ k ih =>
    intro w D L O a ha hr h ws hl
    by_cases h0 : a < 0
    · have hd := dfs_neg hN g.ord hr h0 (L.map (key ns))
      refine (walk_neg a _ _ _ _ w h0).mono fun e w' ⟨h1, h2⟩ => ?_
      subst h1; subst h2
      exact ⟨D.v, L, O, by rw [hd.2], h, ws, hd.1.symm, FS.refl _ _ _⟩
    · by_cases hm : a ∈ L
      · refine (walk_known h a (by omega) hm).mono fun e w' ⟨h1, h2⟩ => ?_
        subst h1; subst h2
        exact ⟨D.v, L, O, by rw [rf_node hN g hr (by omega), idx_key g hr L ws.refs], h, ws, (dfs_known hN g hr (by omega) _ ((mem_key g ws.refs hr).2 hm)).symm, FS.refl _ _ _⟩
      · obtain ⟨i, rfl⟩ := Int.eq_ofNat_of_zero_le (by omega : 0 ≤ a)
        exact walk_new hN h g ws i hr hm hl hns fun w D L O a ha' => ih w D L O a (by omega)

end Go.Proofs.Ythhogbligfmpdaa

/- The method diagram. -/
namespace Go.Proofs.Ythhogbligfmpdaa
open Go.RowKit Bd

/-- The nodes of a diagram lie at this slice. -/
def DAt (w : World) (O : List Nd) (a : Option Addr) : Prop :=
  O ≠ [] → ∃ b o, a = some ⟨b, o, none⟩ ∧ ∀ i, i < O.length → w.cell? ⟨b, o + i * 3, none⟩ = some (.int .i64 (nd O i).1) ∧ w.cell? ⟨b, o + i * 3 + 1, none⟩ = some (.int .i64 (nd O i).2.1) ∧ w.cell? ⟨b, o + i * 3 + 2, none⟩ = some (.int .i64 (nd O i).2.2)

/-- The same, in memory from block B on. -/
def DNew (B : Nat) (w : World) (O : List Nd) (a : Option Addr) : Prop :=
  O ≠ [] → ∃ b, B ≤ b ∧ a = some ⟨b, 0, none⟩ ∧ ∀ i, i < O.length → w.cell? ⟨b, i * 3, none⟩ = some (.int .i64 (nd O i).1) ∧ w.cell? ⟨b, i * 3 + 1, none⟩ = some (.int .i64 (nd O i).2.1) ∧ w.cell? ⟨b, i * 3 + 2, none⟩ = some (.int .i64 (nd O i).2.2)

theorem DNew.dAt {B : Nat} {w : World} {O : List Nd} {a : Option Addr} (h : DNew B w O a) : DAt w O a := by
  intro hne
  obtain ⟨b, _, e, hc⟩ := h hne
  exact ⟨b, 0, e, fun i hi => by rw [Nat.zero_add]; exact hc i hi⟩
theorem DNew.le {B B' : Nat} {w : World} {O : List Nd} {a : Option Addr} (h : DNew B w O a) (hB : B' ≤ B) : DNew B' w O a := by
  intro hne
  obtain ⟨b, hb, e, hc⟩ := h hne
  exact ⟨b, Nat.le_trans hB hb, e, hc⟩
theorem DNew.of_blocks {B : Nat} {w w' : World} {O : List Nd} {a : Option Addr} (h : DNew B w O a) (hb : ∀ b, B ≤ b → b < w.heap.size → w'.heap[b]? = w.heap[b]?) : DNew B w' O a := by
  intro hne
  obtain ⟨b, hB, e, hc⟩ := h hne
  refine ⟨b, hB, e, fun i hi => ?_⟩
  have hlt := lt_of_cell (hc i hi).1
  have hbb := hb b hB hlt
  exact ⟨(World.cell?_of_block (a := ⟨b, i * 3, none⟩) hbb).trans (hc i hi).1, (World.cell?_of_block (a := ⟨b, i * 3 + 1, none⟩) hbb).trans (hc i hi).2.1, (World.cell?_of_block (a := ⟨b, i * 3 + 2, none⟩) hbb).trans (hc i hi).2.2⟩
theorem DNew.below {B : Nat} {w w' : World} {O : List Nd} {a : Option Addr} (h : DNew B w O a) (hb : Below w.heap.size w w') : DNew B w' O a := h.of_blocks fun b _ hl => hb.block b hl
theorem dNew_nil (B : Nat) (w : World) (a : Option Addr) : DNew B w [] a := fun h => absurd rfl h

def DiPost (w : World) (T : List Bool) (e : Ending) (w' : World) : Prop :=
  ∃ a cap, e = .returned (.agg #[.slice a (cnNodes T).length cap, .int .i64 (cnRoot T)]) ∧ DNew w.heap.size w' (cnNodes T) a ∧ Below w.heap.size w w'

theorem dNew_of_row {B : Nat} {w : World} {base : Nat} {a : Option Addr} {O : List Nd} {cap : Nat} (h : w.ownsRow base 77 3 (.slice a O.length cap) O.length (nsC O)) (hB : ∀ g, (Value.slice a O.length cap).ownBlock = some g → B ≤ g) : DNew B w O a := by
  intro hne
  have hlen : 0 < O.length := List.length_pos_iff.2 hne
  rcases h.2 with ⟨_, h2⟩ | ⟨g, cap', cur, hv, _⟩
  · omega
  · simp only [Value.slice.injEq] at hv
    obtain ⟨rfl, _, rfl⟩ := hv
    refine ⟨g, hB g rfl, rfl, fun i hi => ?_⟩
    have hn := nsC_at O i hi
    refine ⟨?_, ?_, ?_⟩
    · rw [h.cellAt _ (by omega)]; exact hn.1
    · rw [h.cellAt _ (by omega)]; exact hn.2.1
    · rw [h.cellAt _ (by omega)]; exact hn.2.2

theorem old6 {w : World} {k : Nat} (h : k < w.heap.size) (o1 o2 o3 o4 o5 o6 : Obj) : ((((((w.alloc o1).alloc o2).alloc o3).alloc o4).alloc o5).alloc o6).heap[k]? = w.heap[k]? := by
  rw [Below.heap_alloc _ _ _ (by simp; omega), Below.heap_alloc _ _ _ (by simp; omega), Below.heap_alloc _ _ _ (by simp; omega), Below.heap_alloc _ _ _ (by simp; omega), Below.heap_alloc _ _ _ (by simp; omega), Below.heap_alloc _ _ _ h]

theorem new6 (w : World) (o1 o2 o3 o4 o5 o6 : Obj) : ∀ W, W = ((((((w.alloc o1).alloc o2).alloc o3).alloc o4).alloc o5).alloc o6) → W.heap[w.heap.size]? = some o1 ∧ W.heap[w.heap.size + 1]? = some o2 ∧ W.heap[w.heap.size + 1 + 1]? = some o3 ∧ W.heap[w.heap.size + 1 + 1 + 1]? = some o4 ∧ W.heap[w.heap.size + 1 + 1 + 1 + 1]? = some o5 ∧ W.heap[w.heap.size + 1 + 1 + 1 + 1 + 1]? = some o6 ∧ W.heap.size = w.heap.size + 6 := by
  rintro W rfl
  have n1 := heap_alloc_new w o1
  have n2 := heap_alloc_new (w.alloc o1) o2
  have n3 := heap_alloc_new ((w.alloc o1).alloc o2) o3
  have n4 := heap_alloc_new (((w.alloc o1).alloc o2).alloc o3) o4
  have n5 := heap_alloc_new ((((w.alloc o1).alloc o2).alloc o3).alloc o4) o5
  have n6 := heap_alloc_new (((((w.alloc o1).alloc o2).alloc o3).alloc o4).alloc o5) o6
  simp only [World.size_alloc] at n1 n2 n3 n4 n5 n6
  refine ⟨?_, ?_, ?_, ?_, ?_, n6, by simp⟩
  · rw [Below.heap_alloc _ _ _ (by simp <;> omega), Below.heap_alloc _ _ _ (by simp <;> omega), Below.heap_alloc _ _ _ (by simp <;> omega), Below.heap_alloc _ _ _ (by simp <;> omega), Below.heap_alloc _ _ _ (by simp)]; exact n1
  · rw [Below.heap_alloc _ _ _ (by simp <;> omega), Below.heap_alloc _ _ _ (by simp <;> omega), Below.heap_alloc _ _ _ (by simp <;> omega), Below.heap_alloc _ _ _ (by simp)]; exact n2
  · rw [Below.heap_alloc _ _ _ (by simp <;> omega), Below.heap_alloc _ _ _ (by simp <;> omega), Below.heap_alloc _ _ _ (by simp)]; exact n3
  · rw [Below.heap_alloc _ _ _ (by simp <;> omega), Below.heap_alloc _ _ _ (by simp)]; exact n4
  · rw [Below.heap_alloc _ _ _ (by simp)]; exact n5

def dl0 (B : Nat) : DL := ⟨B + 1 + 1 + 1 + 1, B + 1 + 1 + 1 + 1 + 1, B, B + 1 + 1, B + 1 + 1 + 1, .slice none 0 0⟩
def fn0 (B : Nat) : Value := .func (.func 88) #[] #[.pointer (some ⟨B + 1 + 1 + 1 + 1, 0, none⟩), .pointer (some ⟨B + 1 + 1 + 1 + 1 + 1, 0, none⟩), .pointer (some ⟨B, 0, none⟩), .pointer (some ⟨B + 1 + 1, 0, none⟩)]

theorem dg_new {w : World} {M : ML} {ns : List Nd} {dn : List (Nd × Int)} (h : Mgr w M ns dn) :
    ∀ W, W = ((((((w.alloc (.cells #[.pointer (some ⟨M.b, 0, none⟩)] 64)).alloc (.cells #[.slice none 0 0, .int .i64 0] 27)).alloc (.cells #[.slice none 0 0, .int .i64 0] 27)).alloc (.map #[] 0)).alloc (.cells #[.map (some (w.heap.size + 1 + 1 + 1))] 109)).alloc (.cells #[fn0 w.heap.size] 75)) →
      DG W M ns dn (dl0 w.heap.size) [] [] 0 ∧ W.heap[w.heap.size + 1]? = some (.cells #[.slice none 0 0, .int .i64 0] 27 (0, 0)) ∧ Below w.heap.size w W ∧ W.heap.size = w.heap.size + 6 := by
  intro W hW
  obtain ⟨n1, n2, n3, n4, n5, n6, n7⟩ := new6 w _ _ _ _ _ _ W hW
  have hB : Below w.heap.size w W := by
    refine ⟨by rw [hW]; rfl, by rw [hW]; rfl, by rw [hW]; rfl, by rw [n7]; omega, fun k hk => ?_⟩
    rw [hW]; exact old6 hk _ _ _ _ _ _
  refine ⟨⟨?_, n5, n6, n1, n3, World.ownsRow_nil _ _ _ _, ⟨#[], 0, n4, rfl⟩, ?_⟩, n2, hB, n7⟩
  · exact h.of_blocks fun k hk => hB.block k (h.lt hk)
  · intro k hk hf
    have := h.lt hf
    rcases hk with e | e | e
    · have : k = w.heap.size + 1 + 1 := e
      omega
    · have : k = w.heap.size + 1 + 1 + 1 := e
      omega
    · simp [dl0, Value.ownBlock] at e

theorem lev_pow {ns : List Nd} (o : Ord ns) {r : Int} (hr : Ref ns r) : ([] : List Int).length + 2 ^ lev ns r ≤ 1000000 := by
  have h1 := pow_mono (lev_le o hr)
  have h2 : (2 : Nat) ^ 16 = 65536 := by decide
  rw [h2] at h1
  simp only [List.length_nil, Nat.zero_add]
  exact Nat.le_trans h1 (by decide)

set_option maxRecDepth 100000 in
set_option maxHeartbeats 1000000 in
theorem diagram_any {w : World} {M : ML} {ns : List Nd} {dn : List (Nd × Int)} (h : Mgr w M ns dn) (g : Bd.Good ns) (hns : ns.length ≤ 1000000000000) {r : Int} (hr : Ref ns r) :
    Calls Try.prog 63 #[.pointer (some ⟨M.b, 0, none⟩), .int .i64 r] w (DiPost w (tb ns 16 r)) := by
  have hmm := @run_makeMap Try.prog
  have H := Lib.hid h; clear h
  have G := Lib.hid g; clear g
  go_enter Try.func63, Try.ntmps63
  go_wp2_with fail
  obtain ⟨dg, rb, bl, sz⟩ := dg_new H.out _ rfl
  have DG0 := Lib.hid dg; clear dg
  have RB := Lib.hid rb; clear rb
  have BL := Lib.hid bl; clear bl
  have SZ := Lib.hid sz; clear sz
  unfold fn0 at DG0 RB BL SZ
  generalize (((((w.alloc (.cells #[.pointer (some ⟨M.b, 0, none⟩)] 64)).alloc (.cells #[.slice none 0 0, .int .i64 0] 27)).alloc (.cells #[.slice none 0 0, .int .i64 0] 27)).alloc (.map #[] 0)).alloc (.cells #[.map (some (w.heap.size + 1 + 1 + 1))] 109)).alloc _ = W at *
  refine (walk_any (N := 16) (Nat.le_refl _) G.out (by omega) (ns.length + 1) W (dl0 w.heap.size) [] [] r (by have := hr.2; omega) hr DG0.out (WS.nil ns) (lev_pow G.out.ord hr)).mono ?_
  rintro e w1 ⟨v1, L1, O1, rfl, dg1, ws1, ek1, fs1⟩
  obtain ⟨av, cpv, hv1⟩ := dg1.sl
  have hv1' : v1 = .slice av O1.length cpv := hv1
  have hbo : w1.heap[w.heap.size + 1 + 1]? = some (.cells #[v1, .int .i64 0] 27 (0, 0)) := dg1.co
  rw [hv1'] at hbo
  have hrb : w1.heap[w.heap.size + 1]? = some (.cells #[.slice none 0 0, .int .i64 0] 27 (0, 0)) := by
    rw [fs1.keep (w.heap.size + 1) (by rw [SZ.out]; omega) (by rintro (e | e) <;> simp [dl0] at e) (by simp [dl0, Value.ownBlock])]
    exact RB.out
  have b0 : w1.cell? ⟨w.heap.size + 1 + 1, 0, none⟩ = some (.slice av O1.length cpv) := by simp [World.cell?, hbo]
  have b1 : w1.cell? ⟨w.heap.size + 1 + 1, 1, none⟩ = some (.int .i64 0) := by simp [World.cell?, hbo]
  have f0 : w1.frozen? ⟨w.heap.size + 1 + 1, 1, none⟩ = false := by simp [World.frozen?, hbo]
  have b2 : w1.cell? ⟨w.heap.size + 1, 0, none⟩ = some (.slice none 0 0) := by simp [World.cell?, hrb]
  have b3 : w1.cell? ⟨w.heap.size + 1, 1, none⟩ = some (.int .i64 0) := by simp [World.cell?, hrb]
  have f1 : w1.frozen? ⟨w.heap.size + 1, 0, none⟩ = false := by simp [World.frozen?, hrb]
  have f2 : w1.frozen? ⟨w.heap.size + 1, 1, none⟩ = false := by simp [World.frozen?, hrb]
  have HBO := Lib.hid hbo; clear hbo
  have HRB := Lib.hid hrb; clear hrb
  have HV1 := Lib.hid hv1'; clear hv1 hv1'
  have DG1 := Lib.hid dg1; clear dg1
  have WS1 := Lib.hid ws1; clear ws1
  have EK1 := Lib.hid ek1; clear ek1
  have FS1 := Lib.hid fs1; clear fs1
  have ER : Hid (rf (L1.map (key ns)) 16 (tb ns 16 r) = cnRoot (tb ns 16 r)) := by
    show _ = _
    rw [EK1.out]; rfl
  have EO : Hid (O1 = cnNodes (tb ns 16 r)) := by
    show _ = _
    rw [WS1.out.out, EK1.out]; rfl
  generalize rf (L1.map (key ns)) 16 (tb ns 16 r) = rt at *
  go_wp2_with fail
  refine bodyPost_ret (v := .agg #[.slice av O1.length cpv, .int .i64 rt]) (by simp [results, Try.results63, go_sem, b2, b3]) rfl ⟨av, cpv, ?_, ?_, ?_⟩
  · rw [← EO.out, ← ER.out]
  · rw [← EO.out]
    have hrow : w1.ownsRow 0 77 3 (.slice av O1.length cpv) O1.length (nsC O1) := by rw [← HV1.out]; exact DG1.out.row
    refine dNew_of_row (base := 0) (cap := cpv) (ownsRow_of_block hrow fun g hg => ?_) (fun g hg => ?_)
    rotate_left
    · rcases FS1.out.loc g (by rw [HV1.out]; exact hg) with e | e
      · simp [dl0, Value.ownBlock] at e
      · have := SZ.out; omega
    obtain ⟨cur, hcur⟩ : ∃ cur, w1.heap[g]? = some (.cells cur 77 (0, 0)) := DG1.out.row_block (by rw [← HV1.out] at hg; exact hg)
    have g1 : g ≠ w.heap.size + 1 := by
      intro e; rw [e, HRB.out] at hcur; simp at hcur
    have g2 : g ≠ w.heap.size + 1 + 1 := by
      intro e; rw [e, HBO.out] at hcur; simp at hcur
    rw [Below.heap_setCell _ _ _ _ g1, Below.heap_setCell _ _ _ _ g1, Below.heap_setCell _ _ _ _ g2]
  · have B1 : Below w.heap.size w w1 := by
      refine ⟨FS1.out.os.trans BL.out.os, FS1.out.tape.trans BL.out.tape, FS1.out.output.trans BL.out.output, Nat.le_trans BL.out.size FS1.out.size, fun k hk => ?_⟩
      rw [FS1.out.keep k (by rw [SZ.out]; omega) ?_ (by simp [dl0, Value.ownBlock])]
      · exact BL.out.block k hk
      · rintro (e | e) <;> simp [dl0] at e <;> omega
    exact ((B1.setCell (by show w.heap.size ≤ w.heap.size + 1 + 1; omega) _).setCell (by show w.heap.size ≤ w.heap.size + 1; omega) _).setCell (by show w.heap.size ≤ w.heap.size + 1; omega) _

end Go.Proofs.Ythhogbligfmpdaa

/- The method result, and Build. -/
namespace Go.Proofs.Ythhogbligfmpdaa
open Go.RowKit Bd

/-- What comes of a function: its canonical diagram, or that it is too large. -/
def outNodes (T : List Bool) : List Nd := if (cnNodes T).length ≤ 2000 then cnNodes T else []
def outRoot (T : List Bool) : Int := if (cnNodes T).length ≤ 2000 then cnRoot T else 0
def outErr (T : List Bool) : Int := if (cnNodes T).length ≤ 2000 then 0 else 3

def ResPost (w : World) (T : List Bool) (e : Ending) (w' : World) : Prop :=
  ∃ a cap, e = .returned (.tuple #[.agg #[.slice a (outNodes T).length cap, .int .i64 (outRoot T)], .int .i64 (outErr T)]) ∧ DNew w.heap.size w' (outNodes T) a ∧ Below w.heap.size w w'

theorem DAt.below {w w' : World} {O : List Nd} {a : Option Addr} (h : DAt w O a) (hb : Below w.heap.size w w') : DAt w' O a := by
  intro hne
  obtain ⟨b, o, e, hc⟩ := h hne
  exact ⟨b, o, e, fun i hi => kid_cells hb (hc i hi)⟩

theorem dAt_nil (w : World) (a : Option Addr) : DAt w [] a := fun h => absurd rfl h

set_option maxRecDepth 100000 in
set_option maxHeartbeats 400000 in
theorem result_any {w : World} {M : ML} {ns : List Nd} {dn : List (Nd × Int)} (h : Mgr w M ns dn) (g : Bd.Good ns) (hns : ns.length ≤ 1000000000000) {r : Int} (hr : Ref ns r) {T : List Bool} (hT : tb ns 16 r = T) :
    Calls Try.prog 42 #[.pointer (some ⟨M.b, 0, none⟩), .int .i64 r] w (ResPost w T) := by
  have C : ∀ w', Mgr w' M ns dn → Calls Try.prog 63 #[.pointer (some ⟨M.b, 0, none⟩), .int .i64 r] w' (DiPost w' T) := by
    intro w' h'
    rw [← hT]
    exact diagram_any h' g hns hr
  have CC := Lib.hid C
  have H := Lib.hid h
  clear C h g hT
  have R0 : Hid (∀ w1, Below (w.alloc (.cells #[.slice none 0 0, .int .i64 0] 27)).heap.size (w.alloc (.cells #[.slice none 0 0, .int .i64 0] 27)) w1 → w1.heap[w.heap.size]? = some (.cells #[.slice none 0 0, .int .i64 0] 27 (0, 0)) ∧ Below w.heap.size w w1 ∧ w.heap.size < w1.heap.size) := by
    intro w1 hb
    have h1 := hb.block w.heap.size (by simp)
    have h2 := hb.size
    simp at h2
    exact ⟨h1.trans (heap_alloc_new w _), Below.over ((Below.refl _ _).alloc (Nat.le_refl _) _) (by simp) hb, by omega⟩
  by_cases hsz : (cnNodes T).length ≤ 2000
  · have e1 : Hid (outNodes T = cnNodes T ∧ outRoot T = cnRoot T ∧ outErr T = 0) := ⟨by simp [outNodes, hsz], by simp [outRoot, hsz], by simp [outErr, hsz]⟩
    go_enter Try.func42, Try.ntmps42
    go_wp2_with fail
    refine (CC.out _ (H.out.alloc _)).mono ?_
    rintro e w1 ⟨a, cap, rfl, da, hb⟩
    have DA := Lib.hid da; clear da
    generalize cnNodes T = O at *
    generalize cnRoot T = rt at *
    obtain ⟨r1, r2, r3⟩ := R0.out w1 hb
    have HB := Lib.hid hb; clear hb R0
    have b0 : w1.cell? ⟨w.heap.size, 0, none⟩ = some (.slice none 0 0) := by simp [World.cell?, r1]
    have b1 : w1.cell? ⟨w.heap.size, 1, none⟩ = some (.int .i64 0) := by simp [World.cell?, r1]
    have f0 : w1.frozen? ⟨w.heap.size, 0, none⟩ = false := by simp [World.frozen?, r1]
    have f1 : w1.frozen? ⟨w.heap.size, 1, none⟩ = false := by simp [World.frozen?, r1]
    have R1 := Lib.hid r1; clear r1
    have R2 := Lib.hid r2; clear r2
    go_wp2_with fail
    refine bodyPost_ret (v := .tuple #[.agg #[.slice a O.length cap, .int .i64 rt], .int .i64 0]) (by simp [results, Try.results42, go_sem, b0, b1, r3]) rfl ⟨a, cap, ?_, ?_, ?_⟩
    · rw [e1.out.1, e1.out.2.1, e1.out.2.2]
    · rw [e1.out.1]
      have := DA.out
      simp only [World.size_alloc] at this
      refine (this.of_blocks (w' := _) fun b hb hl => ?_).le (Nat.le_succ _)
      rw [Below.heap_alloc _ _ _ (by simp [World.setCell]; exact hl), Below.heap_setCell _ _ _ _ (by show b ≠ w.heap.size; omega), Below.heap_setCell _ _ _ _ (by show b ≠ w.heap.size; omega)]
    · exact ((R2.out.setCell (Nat.le_refl _) _).setCell (Nat.le_refl _) _).alloc (by simp [World.setCell]; omega) _
  · have e1 : Hid (outNodes T = [] ∧ outRoot T = 0 ∧ outErr T = 3) := ⟨by simp [outNodes, hsz], by simp [outRoot, hsz], by simp [outErr, hsz]⟩
    go_enter Try.func42, Try.ntmps42
    go_wp2_with fail
    refine (CC.out _ (H.out.alloc _)).mono ?_
    rintro e w1 ⟨a, cap, rfl, da, hb⟩
    clear da
    generalize cnNodes T = O at *
    generalize cnRoot T = rt at *
    obtain ⟨r1, r2, r3⟩ := R0.out w1 hb
    have HB := Lib.hid hb; clear hb R0
    have b0 : w1.cell? ⟨w.heap.size, 0, none⟩ = some (.slice none 0 0) := by simp [World.cell?, r1]
    have b1 : w1.cell? ⟨w.heap.size, 1, none⟩ = some (.int .i64 0) := by simp [World.cell?, r1]
    have f0 : w1.frozen? ⟨w.heap.size, 0, none⟩ = false := by simp [World.frozen?, r1]
    have f1 : w1.frozen? ⟨w.heap.size, 1, none⟩ = false := by simp [World.frozen?, r1]
    have R1 := Lib.hid r1; clear r1
    have R2 := Lib.hid r2; clear r2
    go_wp2_with fail
    refine bodyPost_ret (v := .tuple #[.agg #[.slice none 0 0, .int .i64 0], .int .i64 3]) (by simp [results, Try.results42, go_sem, b0, b1, r3]) rfl ⟨none, 0, ?_, ?_, ?_⟩
    · rw [e1.out.1, e1.out.2.1, e1.out.2.2]; rfl
    · rw [e1.out.1]; exact dNew_nil _ _ _
    · exact ((R2.out.setCell (Nat.le_refl _) _).setCell (Nat.le_refl _) _).alloc (by simp [World.setCell]; omega) _

end Go.Proofs.Ythhogbligfmpdaa
