/- The method build. -/
import Derived.Test.YthhogbligfmpdaaWj
set_option linter.unusedVariables false
set_option linter.unusedSimpArgs false
namespace Go.Proofs.Ythhogbligfmpdaa
open Go.RowKit Bd

theorem below_step {w0 w w' : World} {M M' : ML} (hB : Below w0.heap.size w0 w) (hf : ∀ k, M.foot k → w0.heap.size ≤ k) (h : Step w M w' M') : Below w0.heap.size w0 w' ∧ ∀ k, M'.foot k → w0.heap.size ≤ k := by
  refine ⟨⟨h.os.trans hB.os, h.tape.trans hB.tape, h.output.trans hB.output, Nat.le_trans hB.size h.size, fun k hk => ?_⟩, ?_⟩
  · rw [h.keep k (Nat.lt_of_lt_of_le hk hB.size) (fun e => absurd (hf k e) (by omega))]; exact hB.block k hk
  · rintro k (e | e | e | e)
    · exact hf k (Or.inl (e.trans h.b))
    · exact hf k (Or.inr (Or.inl (e.trans h.bi)))
    · exact hf k (Or.inr (Or.inr (Or.inl (e.trans h.bd))))
    · rcases h.loc k e with e' | e'
      · exact hf k (Or.inr (Or.inr (Or.inr e')))
      · exact Nat.le_trans hB.size e'

theorem info3 : (Try.prog.info? 3).map (fun i => (i.zero, i.size, i.bytes)) = some (some (.int .i64 0), 1, 8) := by kernel_rfl

theorem fault_zero {op var : Int} {kids : List Fm} (h : fault (.mk op var kids) = 0) : own op var kids.length = 0 ∧ ∀ k (hk : k < kids.length), fault kids[k] = 0 := by
  by_cases ho : own op var kids.length = 0
  · refine ⟨ho, fun k hk => ?_⟩
    rw [fault_of_kids ho] at h
    exact (faultL_zero kids).1 h _ (List.getElem_mem hk)
  · rw [fault_of_own ho] at h
    exact absurd h ho

theorem own_zero {op var : Int} {n : Nat} (h : own op var n = 0) : (op = 1 ∧ n = 0 ∧ 0 ≤ var ∧ var ≤ 15) ∨ (op = 2 ∧ n = 0 ∧ 0 ≤ var ∧ var ≤ 1) ∨ (op = 3 ∧ n = 1) ∨ op = 4 ∨ op = 5 ∨ (op = 6 ∧ n = 2) ∨ (op = 7 ∧ n = 3) := by
  unfold own at h
  by_cases h1 : op < 1 ∨ 7 < op
  · simp [h1] at h
  · rw [if_neg h1] at h
    by_cases h2 : n ≠ want op n
    · simp [h2] at h
    · rw [if_neg h2] at h
      by_cases h3 : var < 0 ∨ mostVar op < var
      · simp [h3] at h
      · have hn : n = want op n := by omega
        have h7 : op = 1 ∨ op = 2 ∨ op = 3 ∨ op = 4 ∨ op = 5 ∨ op = 6 ∨ op = 7 := by omega
        have h3a : 0 ≤ var := by omega
        have h3b : var ≤ mostVar op := by omega
        clear h3 h2 h1 h
        rcases h7 with rfl | rfl | rfl | rfl | rfl | rfl | rfl
        · exact Or.inl ⟨rfl, by simpa [want] using hn, h3a, by simpa [mostVar] using h3b⟩
        · exact Or.inr (Or.inl ⟨rfl, by simpa [want] using hn, h3a, by simpa [mostVar] using h3b⟩)
        · exact Or.inr (Or.inr (Or.inl ⟨rfl, by simpa [want] using hn⟩))
        · exact Or.inr (Or.inr (Or.inr (Or.inl rfl)))
        · exact Or.inr (Or.inr (Or.inr (Or.inr (Or.inl rfl))))
        · exact Or.inr (Or.inr (Or.inr (Or.inr (Or.inr (Or.inl ⟨rfl, by simpa [want] using hn⟩)))))
        · exact Or.inr (Or.inr (Or.inr (Or.inr (Or.inr (Or.inr ⟨rfl, by simpa [want] using hn⟩)))))

theorem node_tab {w : World} {M : ML} {ns : List Nd} {dn : List (Nd × Int)} (h : St w M ns dn) {v : Int} (h0 : 0 ≤ v) (h16 : v < 16) (hl : ns.length + 1 ≤ 1000000000000) :
    Calls Try.prog 80 #[.pointer (some ⟨M.b, 0, none⟩), .int .i64 v, .int .i64 (-1), .int .i64 (-2)] w (RPost w M ns (fun x => x.testBit (15 - v.toNat)) 1) := by
  refine (node_any h.mgr v (-1) (-2) hl).mono ?_
  rintro e w' ⟨h1, v', h2, h3⟩
  have H := nodeS_spec h.good h0 h16 (ref_false ns) (ref_true ns) (by rw [top_neg (by omega)]; exact h16) (by rw [top_neg (by omega)]; exact h16)
  obtain ⟨ms, em, lm⟩ := H.ext
  exact ⟨_, _, dn, v', h1, ⟨ms, em, lm⟩, H.ref, tab_var h0 h16 H, ⟨h2, H.good, by rw [em]; exact h.don.app h.good.ord ms⟩, h3⟩

theorem KI.done {w : World} {M : ML} {ns : List Nd} {kids : List Fm} {bx : Obj} {k : Nat} {ao : Option Addr} {cp G : Nat} {wr : World} {ns' : List Nd} {dn' : List (Nd × Int)} {v' : Value} {rs : List Int} (h : KI w M ns kids bx k ao cp G wr ns' dn' v' rs)
    {f : Nat → Bool} {g G' : Nat} {e : Ending} {w2 : World} (hp : RPost wr { M with v := v' } ns' f g e w2) (hG : G + g ≤ G') : RPost w M ns f G' e w2 := by
  obtain ⟨ns2, r, dn2, v2, h1, ⟨ms, em, lm⟩, h3, h4, h5, h6⟩ := hp
  obtain ⟨ms0, e0, l0⟩ := h.ext
  exact ⟨ns2, r, dn2, v2, h1, ⟨ms0 ++ ms, by rw [em, e0, List.append_assoc], by rw [List.length_append]; omega⟩, h3, h4, h5, h.step.trans h6⟩

theorem KI.cells {w : World} {M : ML} {ns : List Nd} {kids : List Fm} {bx : Obj} {k : Nat} {ao : Option Addr} {cp G : Nat} {wr : World} {ns' : List Nd} {dn' : List (Nd × Int)} {v' : Value} {rs : List Int} (h : KI w M ns kids bx k ao cp G wr ns' dn' v' rs) (hk : 0 < k) :
    ∃ g, ao = some ⟨g, 0, none⟩ ∧ ∀ i, i < k → wr.cell? ⟨g, i, none⟩ = some (.int .i64 (rs.getD i 0)) := by
  have hr := h.row
  rcases h.row.2 with ⟨h1, h2⟩ | ⟨g, cap, cur, hv, _⟩
  · omega
  · simp only [Value.slice.injEq] at hv
    obtain ⟨rfl, _, rfl⟩ := hv
    refine ⟨g, rfl, fun i hi => ?_⟩
    rw [hr.cellAt i (by omega)]
    simp [List.getD_eq_getElem?_getD, show i < rs.length by rw [h.len]; exact hi]

theorem evL_getD (l : List Fm) (x i : Nat) (h : i < l.length) : (evF.evL l x).getD i false = evF (l.getD i (.mk 0 0 [])) x := by
  rw [evL_eq]; simp [List.getD_eq_getElem?_getD, h]

theorem evF_var (var : Int) (l : List Fm) (x : Nat) : evF (.mk 1 var l) x = x.testBit (15 - var.toNat) := by simp [evF, opF]
theorem evF_const (var : Int) (l : List Fm) (x : Nat) : evF (.mk 2 var l) x = (var == 1) := by simp [evF, opF]
theorem evF_not (var : Int) (l : List Fm) (x : Nat) (h : 0 < l.length) : evF (.mk 3 var l) x = !evF (l.getD 0 (.mk 0 0 [])) x := by
  simp only [evF, opF]; rw [evL_getD l x 0 h]; simp
theorem evF_xor (var : Int) (l : List Fm) (x : Nat) (h : 1 < l.length) : evF (.mk 6 var l) x = (evF (l.getD 0 (.mk 0 0 [])) x != evF (l.getD 1 (.mk 0 0 [])) x) := by
  simp only [evF, opF]; rw [evL_getD l x 0 (by omega), evL_getD l x 1 h]; simp
theorem evF_ite (var : Int) (l : List Fm) (x : Nat) (h : 2 < l.length) : evF (.mk 7 var l) x = (if evF (l.getD 0 (.mk 0 0 [])) x then evF (l.getD 1 (.mk 0 0 [])) x else evF (l.getD 2 (.mk 0 0 [])) x) := by
  simp only [evF, opF]; rw [evL_getD l x 0 (by omega), evL_getD l x 1 (by omega), evL_getD l x 2 h]; simp
theorem evF_and (var : Int) (l : List Fm) (x : Nat) : evF (.mk 4 var l) x = l.all fun f => evF f x := by
  simp [evF, opF, evL_eq, List.all_map]
theorem evF_or (var : Int) (l : List Fm) (x : Nat) : evF (.mk 5 var l) x = l.any fun f => evF f x := by
  simp [evF, opF, evL_eq, List.any_map]

theorem all_snoc (l : List Fm) (k : Nat) (h : k < l.length) (p : Fm → Bool) : ((l.take k).all p && p (l.getD k (.mk 0 0 []))) = (l.take (k + 1)).all p := by
  rw [List.take_succ_eq_append_getElem h, List.all_append, List.getD_eq_getElem?_getD, List.getElem?_eq_getElem h]
  simp only [List.all_cons, List.all_nil, Bool.and_true, Option.getD_some]
theorem any_snoc (l : List Fm) (k : Nat) (h : k < l.length) (p : Fm → Bool) : ((l.take k).any p || p (l.getD k (.mk 0 0 []))) = (l.take (k + 1)).any p := by
  rw [List.take_succ_eq_append_getElem h, List.any_append, List.getD_eq_getElem?_getD, List.getElem?_eq_getElem h]
  simp only [List.any_cons, List.any_nil, Bool.or_false, Option.getD_some]

/-- The relation of the loop that joins the kids. -/
def LR (w : World) (M : ML) (ns : List Nd) (kids : List Fm) (bx : Obj) (ao : Option Addr) (cp G : Nat) (rs : List Int) (f : Nat → Nat → Bool) (ov i : Value) (wr : World) : Prop :=
  ∃ k r ns' dn' v', k ≤ kids.length ∧ i = .int .i64 (k : Nat) ∧ ov = .int .i64 r ∧ KI w M ns kids bx kids.length ao cp (G + 65536 * k) wr ns' dn' v' rs ∧ Ref ns' r ∧ Tab ns' r (f k)

/-- The loop's relation. -/
def KR (w : World) (M : ML) (ns : List Nd) (kids : List Fm) (bx : Obj) (v i : Value) (wr : World) : Prop :=
  ∃ k ao cp ns' dn' v' rs, k ≤ kids.length ∧ i = .int .i64 (k : Nat) ∧ v = .slice ao k cp ∧ KI w M ns kids bx k ao cp (200000 * cnt.cntL (kids.take k) - 65536 * k) wr ns' dn' v' rs

set_option maxRecDepth 100000 in
set_option maxHeartbeats 1000000 in
theorem build_any {w0 : World} {F : Fm} {a : Option Addr} (h : FmAt w0 F a) : ∀ (cap : Nat) (w : World) (M : ML) (ns : List Nd) (dn : List (Nd × Int)), Below w0.heap.size w0 w → (∀ k, M.foot k → w0.heap.size ≤ k) → St w M ns dn → fault F = 0 → ns.length + 200000 * cnt F ≤ 1000000000000 →
    Calls Try.prog 43 #[.pointer (some ⟨M.b, 0, none⟩), .agg #[.int .i64 F.op, .int .i64 F.var, .slice a F.kids.length cap]] w (RPost w M ns (evF F) (200000 * cnt F - 65536)) := by
  induction h with
  | mk op var kids a A Cp hl h hk ih =>
  intro cap w M ns dn hB hft hst hfault hcnt
  have IH := Lib.hid ih; clear ih
  have H := Lib.hid h; clear h
  have HK := Lib.hid hk; clear hk
  have HFT := Lib.hid hft; clear hft
  have HST := Lib.hid hst; clear hst
  have HFA := Lib.hid hfault; clear hfault
  simp only [Fm.op, Fm.var, Fm.kids]
  obtain ⟨i0, hi0, hz0, hz1, hz2⟩ := info_parts info3
  go_enter Try.func43, Try.ntmps43
  go_wp2_with fail
  have k0 : Hid (KR w M ns kids (.cells #[.int .i64 op, .int .i64 var, .slice a kids.length cap] 24) (.slice none 0 0) (.int .i64 0) (w.alloc (.cells #[.int .i64 op, .int .i64 var, .slice a kids.length cap] 24))) := ⟨0, none, 0, ns, dn, M.v, [], Nat.zero_le _, rfl, rfl, by simpa [cnt.cntL] using KI.start HST.out _⟩
  generalize w.alloc (.cells #[.int .i64 op, .int .i64 var, .slice a kids.length cap] 24) = w1 at *
  go_loopw [5, 15] (fun v i wr => KR w M ns kids (.cells #[.int .i64 op, .int .i64 var, .slice a kids.length cap] 24) v i wr) (fun _ i _ => kids.length - (intOf i).toNat)
  case atStart => exact k0.out
  case round =>
    obtain ⟨k, ao, cp, ns', dn', v', rs, hkl, rfl, rfl, ki⟩ := hrel
    have K1 := Lib.hid ki; clear ki k0
    by_cases hkk : k < kids.length
    · obtain ⟨b, o, rfl, hc⟩ := H.out (by intro e; rw [e] at hkk; simp at hkk)
      have bs := below_step hB HFT.out K1.out.step
      obtain ⟨c0, c1, c2⟩ := kid_cells bs.1 (hc k hkk)
      have HC := Lib.hid hc; clear hc
      have BS := Lib.hid bs; clear bs
      go_wp2_with fail
      obtain ⟨ms, em, lm⟩ := K1.out.ext
      have hcs := cntL_take kids k hkk
      have hle := cntL_take_le kids (k + 1)
      have hcc : cnt (.mk op var kids) = 1 + cnt.cntL kids := rfl
      have harith : ns'.length + 200000 * cnt kids[k] ≤ 1000000000000 := by rw [em, List.length_append]; omega
      have hp1 := cnt_pos kids[k]
      have hp2 := len_le_cntL (kids.take k)
      have hp3 : (kids.take k).length = k := by rw [List.length_take]; omega
      have hg2 : Hid (200000 * cnt.cntL (kids.take k) - 65536 * k + (200000 * cnt kids[k] - 65536) ≤ 200000 * cnt.cntL (kids.take (k + 1)) - 65536 * (k + 1)) := by show _ ≤ _; omega
      clear hp1 hp2 hp3
      have hk8 : k + 1 ≤ 1000000000000 := by have := len_le_cntL kids; omega
      clear em lm hcs hle hcc
      refine (IH.out k hkk (Cp k) _ { M with v := v' } ns' dn' (BS.out.1.alloc BS.out.1.size _) BS.out.2 (K1.out.st.alloc _) ((fault_zero HFA.out).2 k hkk) harith).mono ?_
      rintro e w2 ⟨ns2, r, dn2, v2, rfl, ext2, rf2, tb2, st2, sp2⟩
      have K2 := Lib.hid ((K1.out.alloc _).call ext2 st2 sp2)
      have RF := Lib.hid rf2
      have TB := Lib.hid tb2
      clear ext2 rf2 tb2 st2 sp2 harith BS
      go_wp2_with (at_builtin; refine wpList_append_lies _ rfl _ _ 53 rfl (w.heap.size + 1) 3 i0 (.int .i64 0) 1 8 Try.underlying53 hi0 hz0 hz1 hz2 rfl (by omega) (.slice ao k cp) k (rs.map (Value.int .i64)) rfl (K2.out.row.alloc _) ⟨w2.heap.size, 0, none⟩ 1 1 [.int .i64 r] rfl rfl (World.news_of_block (cs := #[.int .i64 r]) (t := 3) (fr := (0, 0)) (heap_alloc_new w2 _)) (by simp [Value.oneCell']) (by omega) (by unfold maxLen; omega) (by omega) (by have := lt_of_some K2.out.box; simp; omega) (w2.heap.size + 1) (by simp) ?_; intro g2 cap2 w3 hown3 hgrow3 hat3 hlt3; have KP := Lib.hid (K2.out.push (w2 := w3) RF.out (by rw [List.getD_eq_getElem?_getD, List.getElem?_eq_getElem hkk]; exact TB.out) hown3 hgrow3 hat3); clear hown3 hgrow3 hat3 hlt3)
      go_roundw
      case rel => exact ⟨k + 1, _, _, ns2, dn2, v2, rs ++ [r], by omega, by go_num, rfl, KP.out.le hg2.out⟩
      case measure => simp [intOf]; omega
    · obtain rfl : k = kids.length := by omega
      have b0 : wr.cell? ⟨w.heap.size, 0, none⟩ = some (.int .i64 op) := by simp [World.cell?, K1.out.box]
      have b1 : wr.cell? ⟨w.heap.size, 1, none⟩ = some (.int .i64 var) := by simp [World.cell?, K1.out.box]
      have hbx := lt_of_some K1.out.box
      have htk : kids.take kids.length = kids := List.take_of_length_le (Nat.le_refl _)
      rw [htk] at K1
      clear htk
      have hcc : cnt (.mk op var kids) = 1 + cnt.cntL kids := rfl
      have hlc := len_le_cntL kids
      obtain ⟨ms, em, lm⟩ := K1.out.ext
      have hnl : ns'.length + 200000 + 65536 * kids.length ≤ 1000000000000 := by rw [em, List.length_append]; omega
      clear em lm
      have HCC := Lib.hid hcc; clear hcc
      rcases own_zero (fault_zero HFA.out).1 with ⟨hop, hn, hv0, hv1⟩ | ⟨hop, hn, hv0, hv1⟩ | ⟨hop, hn⟩ | hop | hop | ⟨hop, hn⟩ | ⟨hop, hn⟩
      · -- a variable
        have t1 : (op == 1) = true := by simp [hop]
        have HOP := Lib.hid hop; clear hop hn
        go_wp2_with fail
        refine (node_tab K1.out.st hv0 (by omega) (by omega)).mono ?_
        rintro e w2 hp
        have hp2 := K1.out.done hp (G' := 200000 * cnt (.mk op var kids) - 65536) (by rw [HCC.out]; omega)
        obtain ⟨ns2, r, dn2, v2, rfl, hp3⟩ := hp2
        have HP := Lib.hid hp3; clear hp3 hp
        go_wp2_with fail
        go_ret
        exact RPost.congr ⟨ns2, r, dn2, v2, rfl, HP.out⟩ (fun x _ => by rw [HOP.out, evF_var])
      · -- a constant
        have t1 : (op == 1) = false := by simp [hop]
        have t2 : (op == 2) = true := by simp [hop]
        have HOP := Lib.hid hop; clear hop hn
        rcases (by omega : var = 0 ∨ var = 1) with rfl | rfl
        · go_wp2_with fail
          go_ret
          exact RPost.congr (f := fun _ => false) ((K1.out.alloc _).done (g := 0) ⟨ns', -1, dn', v', rfl, ⟨[], by simp, by simp⟩, ref_false _, tab_false _, K1.out.st.alloc _, Step.refl _ _⟩ (by rw [HCC.out]; omega)) (fun x _ => by rw [HOP.out, evF_const]; rfl)
        · go_wp2_with fail
          go_ret
          exact RPost.congr (f := fun _ => true) ((K1.out.alloc _).done (g := 0) ⟨ns', -2, dn', v', rfl, ⟨[], by simp, by simp⟩, ref_true _, tab_true _, K1.out.st.alloc _, Step.refl _ _⟩ (by rw [HCC.out]; omega)) (fun x _ => by rw [HOP.out, evF_const]; rfl)
      · -- a negation
        have t1 : (op == 1) = false := by simp [hop]
        have t2 : (op == 2) = false := by simp [hop]
        have t3 : (op == 3) = true := by simp [hop]
        obtain ⟨g, rfl, hcs⟩ := K1.out.cells (by omega)
        have q0 := hcs 0 (by omega)
        have R0 := Lib.hid (K1.out.refs 0 (by omega))
        have hi1 : (0 : Int) < (kids.length : Int) := by omega
        have hi1n : 0 < kids.length := by omega
        have HN := Lib.hid hn
        have HOP := Lib.hid hop; clear hop hn hcs
        generalize rs.getD 0 0 = r0 at *
        go_wp2_with fail
        refine (not_any K1.out.st R0.out.1 R0.out.2 (by omega)).mono ?_
        rintro e w2 hp
        have hp2 := K1.out.done hp (G' := 200000 * cnt (.mk op var kids) - 65536) (by rw [HCC.out]; omega)
        obtain ⟨ns2, r, dn2, v2, rfl, hp3⟩ := hp2
        have HP := Lib.hid hp3; clear hp3 hp
        go_wp2_with fail
        go_ret
        exact RPost.congr ⟨ns2, r, dn2, v2, rfl, HP.out⟩ (fun x _ => by rw [HOP.out, evF_not _ _ _ (by rw [HN.out]; omega)])
      · -- and
        have t1 : (op == 1) = false := by simp [hop]
        have t2 : (op == 2) = false := by simp [hop]
        have t3 : (op == 3) = false := by simp [hop]
        have t6 : (op == 6) = false := by simp [hop]
        have t7 : (op == 7) = false := by simp [hop]
        have t5 : (op == 5) = false := by simp [hop]
        have HOP := Lib.hid hop; clear hop
        go_wp2_with fail
        go_loopw [8, 80] (fun ov i w2 => LR w M ns kids (.cells #[.int .i64 op, .int .i64 var, .slice a kids.length cap] 24) ao cp (200000 * cnt.cntL kids - 65536 * kids.length) rs (fun k x => (kids.take k).all fun f => evF f x) ov i w2) (fun _ i _ => kids.length - (intOf i).toNat)
        case atStart => exact ⟨0, -2, ns', dn', v', Nat.zero_le _, rfl, rfl, by simpa using K1.out, ref_true _, (tab_true _).congr (fun x _ => by simp)⟩
        case round =>
          obtain ⟨k, r, ns2, dn2, v2, hkl, rfl, rfl, ki, rf, tbl⟩ := hrel
          have K2 := Lib.hid ki; clear ki
          have TB := Lib.hid tbl; clear tbl
          have nl2 : ns2.length + 65536 ≤ 1000000000000 := by
            obtain ⟨ms, em, lm⟩ := K2.out.ext
            rw [em, List.length_append]; rw [HCC.out] at hcnt; omega
          by_cases hkk : k < kids.length
          · obtain ⟨g, hao, hcs⟩ := K2.out.cells (by omega)
            subst hao
            have q0 := hcs k hkk
            have R0 := Lib.hid (K2.out.refs k hkk)
            clear hcs
            generalize rs.getD k 0 = r0 at *
            go_wp2_with fail
            refine (and_any K2.out.st rf R0.out.1 TB.out R0.out.2 nl2).mono ?_
            rintro e w3 ⟨ns3, r3, dn3, v3, rfl, ext3, rf3, tb3, st3, sp3⟩
            have K3 := Lib.hid (K2.out.call ext3 st3 sp3)
            have T3 := Lib.hid tb3
            clear ext3 tb3 st3 sp3
            go_wp2_with fail
            go_roundw
            case rel => exact ⟨k + 1, r3, ns3, dn3, v3, by omega, by go_num, rfl, K3.out.le (by omega), rf3, T3.out.congr (fun x _ => all_snoc kids k hkk fun f => evF f x)⟩
            case measure => simp [intOf]; omega
          · obtain rfl : k = kids.length := by omega
            go_wp2_with fail
            go_ret
            exact RPost.congr (K2.out.done (g := 0) ⟨ns2, r, dn2, v2, rfl, ⟨[], by simp, by simp⟩, rf, TB.out, K2.out.st, Step.refl _ _⟩ (by rw [HCC.out]; omega)) (fun x _ => by rw [HOP.out, evF_and, List.take_of_length_le (Nat.le_refl _)])
      · -- or
        have t1 : (op == 1) = false := by simp [hop]
        have t2 : (op == 2) = false := by simp [hop]
        have t3 : (op == 3) = false := by simp [hop]
        have t6 : (op == 6) = false := by simp [hop]
        have t7 : (op == 7) = false := by simp [hop]
        have t5 : (op == 5) = true := by simp [hop]
        have HOP := Lib.hid hop; clear hop
        go_wp2_with fail
        go_loopw [8, 80] (fun ov i w2 => LR w M ns kids (.cells #[.int .i64 op, .int .i64 var, .slice a kids.length cap] 24) ao cp (200000 * cnt.cntL kids - 65536 * kids.length) rs (fun k x => (kids.take k).any fun f => evF f x) ov i w2) (fun _ i _ => kids.length - (intOf i).toNat)
        case atStart => exact ⟨0, -1, ns', dn', v', Nat.zero_le _, rfl, rfl, by simpa using K1.out, ref_false _, (tab_false _).congr (fun x _ => by simp)⟩
        case round =>
          obtain ⟨k, r, ns2, dn2, v2, hkl, rfl, rfl, ki, rf, tbl⟩ := hrel
          have K2 := Lib.hid ki; clear ki
          have TB := Lib.hid tbl; clear tbl
          have nl2 : ns2.length + 65536 ≤ 1000000000000 := by
            obtain ⟨ms, em, lm⟩ := K2.out.ext
            rw [em, List.length_append]; rw [HCC.out] at hcnt; omega
          by_cases hkk : k < kids.length
          · obtain ⟨g, hao, hcs⟩ := K2.out.cells (by omega)
            subst hao
            have q0 := hcs k hkk
            have R0 := Lib.hid (K2.out.refs k hkk)
            clear hcs
            generalize rs.getD k 0 = r0 at *
            go_wp2_with fail
            refine (or_any K2.out.st rf R0.out.1 TB.out R0.out.2 nl2).mono ?_
            rintro e w3 ⟨ns3, r3, dn3, v3, rfl, ext3, rf3, tb3, st3, sp3⟩
            have K3 := Lib.hid (K2.out.call ext3 st3 sp3)
            have T3 := Lib.hid tb3
            clear ext3 tb3 st3 sp3
            go_wp2_with fail
            go_roundw
            case rel => exact ⟨k + 1, r3, ns3, dn3, v3, by omega, by go_num, rfl, K3.out.le (by omega), rf3, T3.out.congr (fun x _ => any_snoc kids k hkk fun f => evF f x)⟩
            case measure => simp [intOf]; omega
          · obtain rfl : k = kids.length := by omega
            go_wp2_with fail
            go_ret
            exact RPost.congr (K2.out.done (g := 0) ⟨ns2, r, dn2, v2, rfl, ⟨[], by simp, by simp⟩, rf, TB.out, K2.out.st, Step.refl _ _⟩ (by rw [HCC.out]; omega)) (fun x _ => by rw [HOP.out, evF_or, List.take_of_length_le (Nat.le_refl _)])
      · -- xor
        have t1 : (op == 1) = false := by simp [hop]
        have t2 : (op == 2) = false := by simp [hop]
        have t3 : (op == 3) = false := by simp [hop]
        have t6 : (op == 6) = true := by simp [hop]
        obtain ⟨g, rfl, hcs⟩ := K1.out.cells (by omega)
        have q0 := hcs 0 (by omega)
        have q1 := hcs 1 (by omega)
        have R0 := Lib.hid (K1.out.refs 0 (by omega))
        have R1 := Lib.hid (K1.out.refs 1 (by omega))
        have hi1 : (0 : Int) < (kids.length : Int) := by omega
        have hi2 : (1 : Int) < (kids.length : Int) := by omega
        have hi1n : 0 < kids.length := by omega
        have hi2n : 1 < kids.length := by omega
        have HN := Lib.hid hn
        have HOP := Lib.hid hop; clear hop hn hcs
        generalize rs.getD 0 0 = r0 at *
        generalize rs.getD 1 0 = r1 at *
        go_wp2_with fail
        go_still_tail 7, (by kernel_rfl)
        go_wp2_with fail
        refine (xor_any K1.out.drew.st R0.out.1 R1.out.1 R0.out.2 R1.out.2 (by omega)).mono ?_
        rintro e w2 hp
        have hp2 := K1.out.drew.done hp (G' := 200000 * cnt (.mk op var kids) - 65536) (by rw [HCC.out]; omega)
        obtain ⟨ns2, r, dn2, v2, rfl, hp3⟩ := hp2
        have HP := Lib.hid hp3; clear hp3 hp
        go_wp2_with fail
        go_ret
        exact RPost.congr ⟨ns2, r, dn2, v2, rfl, HP.out⟩ (fun x _ => by rw [HOP.out, evF_xor _ _ _ (by rw [HN.out]; omega)])
      · -- ite
        have t1 : (op == 1) = false := by simp [hop]
        have t2 : (op == 2) = false := by simp [hop]
        have t3 : (op == 3) = false := by simp [hop]
        have t6 : (op == 6) = false := by simp [hop]
        have t7 : (op == 7) = true := by simp [hop]
        obtain ⟨g, rfl, hcs⟩ := K1.out.cells (by omega)
        have q0 := hcs 0 (by omega)
        have q1 := hcs 1 (by omega)
        have q2 := hcs 2 (by omega)
        have R0 := Lib.hid (K1.out.refs 0 (by omega))
        have R1 := Lib.hid (K1.out.refs 1 (by omega))
        have R2 := Lib.hid (K1.out.refs 2 (by omega))
        have hi1 : (0 : Int) < (kids.length : Int) := by omega
        have hi2 : (1 : Int) < (kids.length : Int) := by omega
        have hi3 : (2 : Int) < (kids.length : Int) := by omega
        have hi1n : 0 < kids.length := by omega
        have hi2n : 1 < kids.length := by omega
        have hi3n : 2 < kids.length := by omega
        have HN := Lib.hid hn
        have HOP := Lib.hid hop; clear hop hn hcs
        generalize rs.getD 0 0 = r0 at *
        generalize rs.getD 1 0 = r1 at *
        generalize rs.getD 2 0 = r2 at *
        go_wp2_with fail
        go_still_tail 10, (by kernel_rfl)
        go_wp2_with fail
        refine (ite_tab K1.out.drew.st R0.out.1 R1.out.1 R2.out.1 R0.out.2 R1.out.2 R2.out.2 (by omega)).mono ?_
        rintro e w2 hp
        have hp2 := K1.out.drew.done hp (G' := 200000 * cnt (.mk op var kids) - 65536) (by rw [HCC.out]; omega)
        obtain ⟨ns2, r, dn2, v2, rfl, hp3⟩ := hp2
        have HP := Lib.hid hp3; clear hp3 hp
        go_wp2_with fail
        go_ret
        exact RPost.congr ⟨ns2, r, dn2, v2, rfl, HP.out⟩ (fun x _ => by rw [HOP.out, evF_ite _ _ _ (by rw [HN.out]; omega)])

end Go.Proofs.Ythhogbligfmpdaa
