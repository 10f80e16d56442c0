/- Models: its closure, by induction. -/
import Derived.Test.YthhogbligfmpdaaXt
set_option linter.unusedVariables false
set_option linter.unusedSimpArgs false
namespace Go.Proofs.Ythhogbligfmpdaa
open Go.RowKit Bd

/-- The loop over both values. -/
def MLp (B : MB) (ds : List Nd) (aa : Option Addr) (n ca : Nat) (root : Int) (vars most : Nat) (w : World) (ls A C : List (List Int)) (p : List Int) (v : Nat) (cv : Value) (wr : World) : Prop :=
  ∃ ov nw, nw.take v = p ∧ MK B w wr ∧ ((cv = .int .i64 0 ∧ MS B ds aa n ca root vars most wr ov ls nw) ∨ (cv = .int .i64 1 ∧ MS B ds aa n ca root vars most wr ov ((ls ++ A).take most) nw) ∨ (cv = .int .i64 2 ∧ MS B ds aa n ca root vars most wr ov ((ls ++ (A ++ C)).take most) nw))

theorem take_le {α : Type} (l : List α) (m : Nat) : (l.take m).length ≤ m := List.length_take_le _ _
theorem take_down {nw2 nw1 : List Int} {v : Nat} (h : nw2.take (v + 1) = nw1.take (v + 1)) : nw2.take v = nw1.take v := by
  have := congrArg (List.take v) h
  rwa [List.take_take, List.take_take, Nat.min_eq_left (by omega)] at this

section
variable {B : MB} {ds : List Nd} {aa : Option Addr} {n ca vars most : Nat} {root : Int}

set_option maxRecDepth 100000 in
set_option maxHeartbeats 2000000 in
theorem m_any (od : Ord ds) (ovr : Over ds vars) (hv : vars ≤ 16) (hm : most ≤ 2000) (hn : ds.length = n) (hln : n ≤ 2000) (m : Nat) : ∀ (v : Nat) (k : Int) (w : World) (ov : Value) (ls : List (List Int)) (nw : List Int), m + v = vars → Ref ds k → (v : Int) ≤ top ds k → ls.length ≤ most → MS B ds aa n ca root vars most w ov ls nw →
    Calls Try.prog 59 #[.int .i64 k, .int .i64 v, .pointer (some ⟨B.bo, 0, none⟩), .pointer (some ⟨B.bm, 0, none⟩), .pointer (some ⟨B.bv, 0, none⟩), .pointer (some ⟨B.bn, 0, none⟩), .pointer (some ⟨B.ba, 0, none⟩), .pointer (some ⟨B.bw, 0, none⟩)] w (MPost B ds aa n ca root vars most w ((ls ++ mdl ds vars m k (nw.take v)).take most) (nw.take v) v) := by
  induction m with
  | zero =>
    intro v k w ov ls nw hmv hr ht hl h
    have hk := over_neg ovr hr (by omega)
    have hr1 := hr.1
    obtain rfl : v = vars := by omega
    rcases (by omega : k = -1 ∨ k = -2) with rfl | rfl
    · rw [mdl_false hv, List.append_nil, List.take_of_length_le hl]
      exact m_false h
    · have e : mdl ds v 0 (-2) (nw.take v) = [nw.take v] := by simp [mdl]
      rw [e]
      by_cases hf : ls.length < most
      · have e2 : nw.take v = nw := List.take_of_length_le (by rw [h.nl]; exact Nat.le_refl _)
        have e3 : (ls ++ [nw.take v]).take most = ls ++ [nw] := by rw [e2, List.take_of_length_le (by simp; omega)]
        rw [e3]
        exact m_leaf h hf hm hv
      · have e3 : (ls ++ [nw.take v]).take most = ls := by rw [List.take_append_of_le_length (by omega), List.take_of_length_le hl]
        rw [e3]
        exact m_full h (by decide) hf hm hl
  | succ m ih =>
    intro v k w ov ls nw hmv hr ht hl h
    by_cases hk1 : k = -1
    · subst hk1
      rw [mdl_false hv, List.append_nil, List.take_of_length_le hl]
      exact m_false h
    · have hkb : (k == -1) = false := by simpa using hk1
      by_cases hf : ls.length < most
      · have em : mdl ds vars (m + 1) k (nw.take v) = mdl ds vars m (spl0 ds k v) (nw.take v ++ [0]) ++ mdl ds vars m (spl1 ds k v) (nw.take v ++ [1]) := by
          simp only [mdl]
          rw [show (vars : Int) - ((m : Int) + 1) = (v : Int) from by omega]
        have s0 := od.spl0 hr ht (by omega)
        have s1 := od.spl1 hr ht (by omega)
        rw [em]
        obtain ⟨P, hP⟩ : ∃ P, nw.take v = P := ⟨_, rfl⟩
        rw [hP]
        obtain ⟨A, hA⟩ : ∃ A, mdl ds vars m (spl0 ds k v) (P ++ [0]) = A := ⟨_, rfl⟩
        obtain ⟨C, hC⟩ : ∃ C, mdl ds vars m (spl1 ds k v) (P ++ [1]) = C := ⟨_, rfl⟩
        rw [hA, hC]
        have IH0 : Hid (∀ (W : World) (ov : Value) (nw1 : List Int), nw1.take (v + 1) = P ++ [0] → MS B ds aa n ca root vars most W ov ls nw1 →
            Calls Try.prog 59 #[.int .i64 (spl0 ds k v), .int .i64 ((v : Int) + 1), .pointer (some ⟨B.bo, 0, none⟩), .pointer (some ⟨B.bm, 0, none⟩), .pointer (some ⟨B.bv, 0, none⟩), .pointer (some ⟨B.bn, 0, none⟩), .pointer (some ⟨B.ba, 0, none⟩), .pointer (some ⟨B.bw, 0, none⟩)] W (MPost B ds aa n ca root vars most W ((ls ++ A).take most) (P ++ [0]) (v + 1))) := by
          intro W ov nw1 ht1 ms
          have := ih (v + 1) (spl0 ds k v) W ov ls nw1 (by omega) s0.1 (by have := s0.2; omega) hl ms
          rw [ht1, hA, cast_succ] at this
          exact this
        have IH1 : Hid (∀ (W : World) (ov : Value) (nw1 : List Int), nw1.take (v + 1) = P ++ [1] → MS B ds aa n ca root vars most W ov ((ls ++ A).take most) nw1 →
            Calls Try.prog 59 #[.int .i64 (spl1 ds k v), .int .i64 ((v : Int) + 1), .pointer (some ⟨B.bo, 0, none⟩), .pointer (some ⟨B.bm, 0, none⟩), .pointer (some ⟨B.bv, 0, none⟩), .pointer (some ⟨B.bn, 0, none⟩), .pointer (some ⟨B.ba, 0, none⟩), .pointer (some ⟨B.bw, 0, none⟩)] W (MPost B ds aa n ca root vars most W ((ls ++ (A ++ C)).take most) (P ++ [1]) (v + 1))) := by
          intro W ov nw1 ht1 ms
          have := ih (v + 1) (spl1 ds k v) W ov ((ls ++ A).take most) nw1 (by omega) s1.1 (by have := s1.2; omega) (take_le _ _) ms
          rw [ht1, hC, cast_succ, take_push, List.append_assoc] at this
          exact this
        clear ih hA hC em s0 s1
        obtain ⟨a, cap, rfl⟩ := h.ovForm
        have c0 := (one_cell h.co).1
        have c1 := (one_cell h.cm).1
        have c2 := (one_cell h.cv).1
        have HP := Lib.hid hP; clear hP
        have H := Lib.hid h; clear h
        have OD := Lib.hid od; clear od
        have RF := Lib.hid hr
        have HN := Lib.hid hn; clear hn
        have OV := Lib.hid ovr; clear ovr
        have hkn : k < (n : Int) := by have := hr.2; rw [HN.out] at this; exact this
        have hk2 : -2 ≤ k := hr.1
        clear hr
        have hi : ¬ ((most : Int) ≤ (ls.length : Int)) := by omega
        have hvv : v < vars := by omega
        have hvb : ((v : Int) == (vars : Int)) = false := by simp; omega
        have g1 := B.h1; have g2 := B.h2; have g3 := B.h3; have g4 := B.h4; have g5 := B.h5; have g6 := B.h6; have g7 := B.h7
        go_enter Try.func59, Try.ntmps59
        go_wp2_with fail
        clear c0 c1 c2
        go_loopw [28] (fun cv wr => MLp B ds aa n ca root vars most w ls A C P v cv wr) (fun cv _ => 2 - (intOf cv).toNat)
        case atStart => exact ⟨_, nw, HP.out, MK.refl _ _, Or.inl ⟨rfl, H.out⟩⟩
        case round =>
          obtain ⟨ov1, nw1, hp1, mk1, hcv⟩ := hrel
          have HP1 := Lib.hid hp1; clear hp1
          have MK1 := Lib.hid mk1; clear mk1
          rcases hcv with ⟨rfl, ms⟩ | ⟨rfl, ms⟩ | ⟨rfl, ms⟩
          · have c3 := (one_cell ms.cn).1
            have nc := ms.now v hvv
            have nf := ms.fz v
            have i1 : (v : Int) < (vars : Int) := by omega
            have i3 : (0 : Int) ≤ (v : Int) := by omega
            have SN := Lib.hid (ms.setNow hvv 0)
            have nln : v < nw1.length := by rw [ms.nl]; exact hvv
            have ST := Lib.hid (set_take nw1 v 0 nln)
            clear ms
            generalize nw1.getD v 0 = ox at *
            go_upto_region 7 with fail
            have MSS := Lib.hid SN.out.1
            have MKS := Lib.hid SN.out.2
            clear SN c3 nc nf
            have T1 : Hid ((nw1.set v 0).take (v + 1) = P ++ [0]) := by show _ = _; rw [ST.out.2, HP1.out]
            have TP : Hid ((nw1.set v 0).take v = P) := by show _ = _; rw [ST.out.1, HP1.out]
            generalize wr.setCell ⟨B.g, v, none⟩ (.int .i64 0) = W1 at *
            generalize nw1.set v 0 = nw3 at *
            have d0 := (cells2 MSS.out.cda).1
            have d1 := (one_cell MSS.out.cw).1
            unfold MB.caps at d1
            by_cases k0 : k < 0
            · have gd : decide ((0 : Int) ≤ k) = false := by simp; omega
              have CC := IH0.out W1 ov1 nw3 T1.out MSS.out
              rw [(spl_neg (ds := ds) k0 (by omega : (v : Int) < 16)).1] at CC
              have CC := Lib.hid CC
              go_wp2_with fail
              refine (CC.out).mono ?_
              rintro e w2 ⟨ov2, nw2, rfl, ms2, ht2, mk2⟩
              have MS2 := Lib.hid ms2
              have T2 := Lib.hid (take_down (ht2.trans T1.out.symm))
              have MK2 := Lib.hid mk2
              clear ms2 ht2 mk2
              go_wp2_with fail
              go_roundw
              case rel => exact ⟨ov2, nw2, T2.out.trans TP.out, (MK1.out.trans MKS.out).trans (MK2.out), Or.inr (Or.inl ⟨rfl, MS2.out⟩)⟩
              case measure => simp [intOf]
            · obtain ⟨i, rfl⟩ := Int.eq_ofNat_of_zero_le (by omega : 0 ≤ k)
              have gd : decide ((0 : Int) ≤ (i : Int)) = true := by simp
              have hid : i < ds.length := by rw [HN.out]; omega
              obtain ⟨bd, od', rfl, dd⟩ := MSS.out.da (by intro e; rw [e] at hid; simp at hid)
              obtain ⟨p1, p2, p3⟩ := dd i hid
              clear dd
              have i5 : (i : Int) < (n : Int) := by omega
              have i6 : (0 : Int) ≤ (i : Int) := by omega
              have tn : top ds i = (nd ds i).1 := top_nat i
              by_cases hvi : (nd ds i).1 = (v : Int)
              · have CC := IH0.out
                have e1 : spl0 ds i v = (nd ds i).2.1 := by unfold spl0; rw [tn, if_pos hvi]; rfl
                rw [e1] at CC
                rw [hvi] at p1
                have HVI := Lib.hid hvi
                clear e1 tn hvi
                generalize (nd ds i).2.1 = l0 at *
                generalize (nd ds i).2.2 = h0 at *
                have C2 := Lib.hid (fun (W : World) (ms : MS B ds (some ⟨bd, od', none⟩) n ca root vars most W ov1 _ nw3) => CC W ov1 nw3 T1.out ms)
                clear CC
                go_wp2_with fail
                go_region
                have MS4 := Lib.hid (MSS.out.same (w' := (W1.alloc (.cells #[.int .i64 l0, .int .i64 h0] 3)).drew) (fun b hb => Below.heap_alloc W1 _ b hb) (by simp))
                have MK4 : Hid (MK B W1 (W1.alloc (.cells #[.int .i64 l0, .int .i64 h0] 3)).drew) := ⟨rfl, rfl, rfl, by simp, fun k hk _ _ => Below.heap_alloc W1 _ k (Nat.lt_of_lt_of_le hk MSS.out.sz)⟩
                have CC := Lib.hid (C2.out _ MS4.out)
                have d2 := (one_cell MS4.out.cw).1
                unfold MB.caps at d2
                go_wp2_with fail
                refine (CC.out).mono ?_
                rintro e w2 ⟨ov2, nw2, rfl, ms2, ht2, mk2⟩
                have MS2 := Lib.hid ms2
                have T2 := Lib.hid (take_down (ht2.trans T1.out.symm))
                have MK2 := Lib.hid mk2
                clear ms2 ht2 mk2
                go_wp2_with fail
                go_roundw
                case rel => exact ⟨ov2, nw2, T2.out.trans TP.out, (MK1.out.trans MKS.out).trans (MK4.out.trans MK2.out), Or.inr (Or.inl ⟨rfl, MS2.out⟩)⟩
                case measure => simp [intOf]
              · have CC := IH0.out W1 ov1 nw3 T1.out MSS.out
                have e1 : spl0 ds i v = (i : Int) := by unfold spl0; rw [tn, if_neg hvi]
                rw [e1] at CC
                obtain ⟨vi, hvi2⟩ : ∃ vi, (nd ds i).1 = vi := ⟨_, rfl⟩
                rw [hvi2] at p1 hvi
                have hb : (vi == (v : Int)) = false := by simpa using hvi
                clear e1 hvi2 hvi tn
                have CC := Lib.hid CC
                go_wp2_with fail
                refine (CC.out).mono ?_
                rintro e w2 ⟨ov2, nw2, rfl, ms2, ht2, mk2⟩
                have MS2 := Lib.hid ms2
                have T2 := Lib.hid (take_down (ht2.trans T1.out.symm))
                have MK2 := Lib.hid mk2
                clear ms2 ht2 mk2
                go_wp2_with fail
                go_roundw
                case rel => exact ⟨ov2, nw2, T2.out.trans TP.out, (MK1.out.trans MKS.out).trans (MK2.out), Or.inr (Or.inl ⟨rfl, MS2.out⟩)⟩
                case measure => simp [intOf]
          · have c3 := (one_cell ms.cn).1
            have nc := ms.now v hvv
            have nf := ms.fz v
            have i1 : (v : Int) < (vars : Int) := by omega
            have i3 : (0 : Int) ≤ (v : Int) := by omega
            have SN := Lib.hid (ms.setNow hvv 1)
            have nln : v < nw1.length := by rw [ms.nl]; exact hvv
            have ST := Lib.hid (set_take nw1 v 1 nln)
            clear ms
            generalize nw1.getD v 0 = ox at *
            go_upto_region 7 with fail
            have MSS := Lib.hid SN.out.1
            have MKS := Lib.hid SN.out.2
            clear SN c3 nc nf
            have T1 : Hid ((nw1.set v 1).take (v + 1) = P ++ [1]) := by show _ = _; rw [ST.out.2, HP1.out]
            have TP : Hid ((nw1.set v 1).take v = P) := by show _ = _; rw [ST.out.1, HP1.out]
            generalize wr.setCell ⟨B.g, v, none⟩ (.int .i64 1) = W1 at *
            generalize nw1.set v 1 = nw3 at *
            have d0 := (cells2 MSS.out.cda).1
            have d1 := (one_cell MSS.out.cw).1
            unfold MB.caps at d1
            by_cases k0 : k < 0
            · have gd : decide ((0 : Int) ≤ k) = false := by simp; omega
              have CC := IH1.out W1 ov1 nw3 T1.out MSS.out
              rw [(spl_neg (ds := ds) k0 (by omega : (v : Int) < 16)).2] at CC
              have CC := Lib.hid CC
              go_wp2_with fail
              refine (CC.out).mono ?_
              rintro e w2 ⟨ov2, nw2, rfl, ms2, ht2, mk2⟩
              have MS2 := Lib.hid ms2
              have T2 := Lib.hid (take_down (ht2.trans T1.out.symm))
              have MK2 := Lib.hid mk2
              clear ms2 ht2 mk2
              go_wp2_with fail
              go_roundw
              case rel => exact ⟨ov2, nw2, T2.out.trans TP.out, (MK1.out.trans MKS.out).trans (MK2.out), Or.inr (Or.inr ⟨rfl, MS2.out⟩)⟩
              case measure => simp [intOf]
            · obtain ⟨i, rfl⟩ := Int.eq_ofNat_of_zero_le (by omega : 0 ≤ k)
              have gd : decide ((0 : Int) ≤ (i : Int)) = true := by simp
              have hid : i < ds.length := by rw [HN.out]; omega
              obtain ⟨bd, od', rfl, dd⟩ := MSS.out.da (by intro e; rw [e] at hid; simp at hid)
              obtain ⟨p1, p2, p3⟩ := dd i hid
              clear dd
              have i5 : (i : Int) < (n : Int) := by omega
              have i6 : (0 : Int) ≤ (i : Int) := by omega
              have tn : top ds i = (nd ds i).1 := top_nat i
              by_cases hvi : (nd ds i).1 = (v : Int)
              · have CC := IH1.out
                have e1 : spl1 ds i v = (nd ds i).2.2 := by unfold spl1; rw [tn, if_pos hvi]; rfl
                rw [e1] at CC
                rw [hvi] at p1
                have HVI := Lib.hid hvi
                clear e1 tn hvi
                generalize (nd ds i).2.1 = l0 at *
                generalize (nd ds i).2.2 = h0 at *
                have C2 := Lib.hid (fun (W : World) (ms : MS B ds (some ⟨bd, od', none⟩) n ca root vars most W ov1 _ nw3) => CC W ov1 nw3 T1.out ms)
                clear CC
                go_wp2_with fail
                go_region
                have MS4 := Lib.hid (MSS.out.same (w' := (W1.alloc (.cells #[.int .i64 l0, .int .i64 h0] 3)).drew) (fun b hb => Below.heap_alloc W1 _ b hb) (by simp))
                have MK4 : Hid (MK B W1 (W1.alloc (.cells #[.int .i64 l0, .int .i64 h0] 3)).drew) := ⟨rfl, rfl, rfl, by simp, fun k hk _ _ => Below.heap_alloc W1 _ k (Nat.lt_of_lt_of_le hk MSS.out.sz)⟩
                have CC := Lib.hid (C2.out _ MS4.out)
                have d2 := (one_cell MS4.out.cw).1
                unfold MB.caps at d2
                go_wp2_with fail
                refine (CC.out).mono ?_
                rintro e w2 ⟨ov2, nw2, rfl, ms2, ht2, mk2⟩
                have MS2 := Lib.hid ms2
                have T2 := Lib.hid (take_down (ht2.trans T1.out.symm))
                have MK2 := Lib.hid mk2
                clear ms2 ht2 mk2
                go_wp2_with fail
                go_roundw
                case rel => exact ⟨ov2, nw2, T2.out.trans TP.out, (MK1.out.trans MKS.out).trans (MK4.out.trans MK2.out), Or.inr (Or.inr ⟨rfl, MS2.out⟩)⟩
                case measure => simp [intOf]
              · have CC := IH1.out W1 ov1 nw3 T1.out MSS.out
                have e1 : spl1 ds i v = (i : Int) := by unfold spl1; rw [tn, if_neg hvi]
                rw [e1] at CC
                obtain ⟨vi, hvi2⟩ : ∃ vi, (nd ds i).1 = vi := ⟨_, rfl⟩
                rw [hvi2] at p1 hvi
                have hb : (vi == (v : Int)) = false := by simpa using hvi
                clear e1 hvi2 hvi tn
                have CC := Lib.hid CC
                go_wp2_with fail
                refine (CC.out).mono ?_
                rintro e w2 ⟨ov2, nw2, rfl, ms2, ht2, mk2⟩
                have MS2 := Lib.hid ms2
                have T2 := Lib.hid (take_down (ht2.trans T1.out.symm))
                have MK2 := Lib.hid mk2
                clear ms2 ht2 mk2
                go_wp2_with fail
                go_roundw
                case rel => exact ⟨ov2, nw2, T2.out.trans TP.out, (MK1.out.trans MKS.out).trans (MK2.out), Or.inr (Or.inr ⟨rfl, MS2.out⟩)⟩
                case measure => simp [intOf]
          · have MS2 := Lib.hid ms; clear ms
            go_wp2_with fail
            go_end0
            exact ⟨ov1, nw1, rfl, MS2.out, HP1.out, MK1.out⟩
      · have e3 : (ls ++ mdl ds vars (m + 1) k (nw.take v)).take most = ls := by rw [List.take_append_of_le_length (by omega), List.take_of_length_le hl]
        rw [e3]
        exact m_full h hkb hf hm hl
end

end Go.Proofs.Ythhogbligfmpdaa
