/- The reference's Applied. -/
import Derived.Test.YthhogbligfmpdaaXn
set_option linter.unusedVariables false
set_option linter.unusedSimpArgs false
namespace Go.Proofs.Ythhogbligfmpdaa
open Go.RowKit Bd

set_option maxRecDepth 100000 in
set_option maxHeartbeats 400000 in
theorem applied_op {w : World} {op : Int} {aa ab : Option Addr} {n m ca cb : Nat} {ra rb : Int} (h4 : (op != 4) = true) (h5 : (op != 5) = true) (h6 : (op != 6) = true) :
    Calls Try.prog 21 #[.int .i64 op, .agg #[.slice aa n ca, .int .i64 ra], .agg #[.slice ab m cb, .int .i64 rb]] w (DEPost w [] 0 7) := by
  have PO := Lib.hid (fun (W : World) (h : Below w.heap.size w W) => (⟨none, 0, rfl, dNew_nil _ _ _, h⟩ : DEPost w [] 0 7 (.returned (.tuple #[.agg #[.slice none 0 0, .int .i64 0], .int .i64 7])) W))
  go_enter Try.func21, Try.ntmps21
  go_wp2_with fail
  refine bodyPost_ret (v := .tuple #[.agg #[.slice none 0 0, .int .i64 0], .int .i64 7]) (by simp [results, Try.results21, go_sem]) rfl (PO.out _ ?_)
  exact ((((Below.refl _ _).alloc (Nat.le_refl _) _).alloc (by simp) _).alloc (by simp; omega) _)

theorem opB4 (p q : Bool) : opB 4 p q = (p && q) := by simp [opB]
theorem opB5 (p q : Bool) : opB 5 p q = (p || q) := by simp [opB]
theorem opB6 (p q : Bool) : opB 6 p q = (p != q) := by simp [opB]

set_option maxRecDepth 100000 in
set_option maxHeartbeats 1500000 in
theorem applied_and {w : World} {da db : List Nd} {aa ab : Option Addr} {n m ca cb : Nat} {ra rb : Int} (hda : DAt w da aa) (hdb : DAt w db ab) (hn : da.length = n) (hm : db.length = m) (hl : n ≤ 9223372036854775807) (hl2 : m ≤ 9223372036854775807) :
    Calls Try.prog 21 #[.int .i64 4, .agg #[.slice aa n ca, .int .i64 ra], .agg #[.slice ab m cb, .int .i64 rb]] w (DePost w (apPre 4 da ra db rb) (opT 4 (tb da 16 ra) (tb db 16 rb))) := by
  obtain ⟨x1, x2, x3, x5, x6⟩ := three_new w (.cells #[.slice aa n ca, .int .i64 ra] 27) (.cells #[.slice ab m cb, .int .i64 rb] 27) (.cells #[.slice none 0 0, .int .i64 0] 27) _ rfl
  have X1 := Lib.hid x1; clear x1
  have X2 := Lib.hid x2; clear x2
  have X3 := Lib.hid x3; clear x3
  have X5 := Lib.hid x5; clear x5
  have X6 := Lib.hid x6; clear x6
  have HA := Lib.hid hda; clear hda
  have HB := Lib.hid hdb; clear hdb
  have C := Lib.hid (fault_any (cap := ca) (root := ra) (HA.out.below X6.out) hn hl)
  have HN := Lib.hid hn; clear hn
  have HM := Lib.hid hm; clear hm
  have NO : Hid (¬ ((4 : Int) ≠ 4 ∧ (4 : Int) ≠ 5 ∧ (4 : Int) ≠ 6)) := by show ¬ _; omega
  go_enter Try.func21, Try.ntmps21
  go_wp2_with fail
  generalize ((w.alloc (.cells #[.slice aa n ca, .int .i64 ra] 27)).alloc (.cells #[.slice ab m cb, .int .i64 rb] 27)).alloc (.cells #[.slice none 0 0, .int .i64 0] 27) = w1 at *
  refine C.out.mono ?_
  clear C
  rintro e w2 ⟨rfl, hb⟩
  have B2 := Lib.hid (Below.over X6.out X6.out.size hb)
  have b1 := Lib.hid ((hb.block _ (by rw [X5.out]; omega)).trans X1.out)
  have b2 := Lib.hid ((hb.block _ (by rw [X5.out]; omega)).trans X2.out)
  have b3 := Lib.hid ((hb.block _ (by rw [X5.out]; omega)).trans X3.out)
  have hsz2 : w.heap.size + 3 ≤ w2.heap.size := by have := hb.size; rw [X5.out] at this; exact this
  clear hb X1 X2 X3 X5 X6
  obtain ⟨ck, hck⟩ : ∃ ck, chk da ra = ck := ⟨_, rfl⟩
  rw [hck]
  have CK := Lib.hid hck; clear hck
  by_cases hc : ck = 0
  · subst hc
    have CKA := CK; clear CK
    have C := Lib.hid (fault_any (cap := cb) (root := rb) (HB.out.below B2.out) HM.out hl2)
    obtain ⟨y0, y1, _⟩ := cells2 b2.out
    go_wp2_with fail
    refine C.out.mono ?_
    clear C y0 y1
    rintro e w3 ⟨rfl, hb⟩
    have B3 := Lib.hid (Below.over B2.out B2.out.size hb)
    have c1 := Lib.hid ((hb.block w.heap.size (by omega)).trans b1.out)
    have c2 := Lib.hid ((hb.block (w.heap.size + 1) (by omega)).trans b2.out)
    have c3 := Lib.hid ((hb.block (w.heap.size + 1 + 1) (by omega)).trans b3.out)
    have hsz3 : w.heap.size + 3 ≤ w3.heap.size := by have := hb.size; omega
    clear hb b1 b2 b3
    obtain ⟨ck, hck⟩ : ∃ ck, chk db rb = ck := ⟨_, rfl⟩
    rw [hck]
    have CK := Lib.hid hck; clear hck
    by_cases hc : ck = 0
    · subst hc
      have EP := Lib.hid ((apPre_b (da := da) (ra := ra) (db := db) (rb := rb) NO.out CKA.out).trans CK.out)
      obtain ⟨q1, q2, q3, q4, q5⟩ := chk_zero CKA.out
      have ODA := Lib.hid q2
      have hn2 : n ≤ 2000 := by rw [HN.out] at q1; exact q1
      have RFA := Lib.hid q3
      clear q1 q2 q3 q4 q5
      obtain ⟨q1, q2, q3, q4, q5⟩ := chk_zero CK.out
      have ODB := Lib.hid q2
      have hm2 : m ≤ 2000 := by rw [HM.out] at q1; exact q1
      have RFB := Lib.hid q3
      clear q1 q2 q3 q4 q5
      obtain ⟨k, hk⟩ : ∃ n : Nat, n = 65536 := ⟨_, rfl⟩
      have CT := Lib.hid (table_any (cap := ca) (n := k) (HA.out.below B3.out) ODA.out RFA.out HN.out hn2 hk)
      have hk1 : k ≤ 65536 := by omega
      have HK := Lib.hid hk; clear hk
      obtain ⟨y0, y1, _⟩ := cells2 c1.out
      go_wp2_with fail
      refine CT.out.mono ?_
      clear CT y0 y1
      rintro e w4 ⟨g, hg, hgl, rfl, t1, t2, bl4⟩
      have B34 := Lib.hid bl4
      have B4 := Lib.hid (Below.over B3.out B3.out.size bl4)
      have T1 := Lib.hid t1; clear t1
      have T2 := Lib.hid t2; clear t2
      obtain ⟨y0, y1, _⟩ := cells2 ((bl4.block (w.heap.size + 1) (by omega)).trans c2.out)
      clear bl4
      have CT := Lib.hid (table_any (cap := cb) (n := k) (HB.out.below B4.out) ODB.out RFB.out HM.out hm2 HK.out)
      go_wp2_with fail
      refine CT.out.mono ?_
      clear CT y0 y1
      rintro e w5 ⟨g2, hg2, hgl2, rfl, t3, t4, bl5⟩
      have B35 := Lib.hid (Below.over B34.out B34.out.size bl5)
      have T3 := Lib.hid t3; clear t3
      have T0 := Lib.hid (TMr.start (f' := fun x => opB 4 (fnT (tb da 16 ra) x) (fnT (tb db 16 rb) x)) (fun j hj => cell_later bl5 (T1.out j hj)) (fun j => (bl5.frozen (p := ⟨g, j, none⟩) hgl).trans (T2.out j)))
      clear t4 bl5 T1 T2
      have hgg : g ≠ g2 := by omega
      obtain ⟨fa, hfa⟩ : ∃ ff, fnT (tb da 16 ra) = ff := ⟨_, rfl⟩
      obtain ⟨fb, hfb⟩ : ∃ ff, fnT (tb db 16 rb) = ff := ⟨_, rfl⟩
      have E := Lib.hid (de_ok EP.out (opT 4 (tb da 16 ra) (tb db 16 rb)))
      have EO : Hid (opT 4 (tb da 16 ra) (tb db 16 rb) = tl fun x => opB 4 (fa x) (fb x)) := by show _ = _; unfold opT; rw [hfa, hfb]
      have E1 : Hid (deN (apPre 4 da ra db rb) (opT 4 (tb da 16 ra) (tb db 16 rb)) = outNodes (tl fun x => opB 4 (fa x) (fb x)) ∧ deR (apPre 4 da ra db rb) (opT 4 (tb da 16 ra) (tb db 16 rb)) = outRoot (tl fun x => opB 4 (fa x) (fb x)) ∧ deE (apPre 4 da ra db rb) (opT 4 (tb da 16 ra) (tb db 16 rb)) = outErr (tl fun x => opB 4 (fa x) (fb x))) := by rw [← EO.out]; exact E.out
      rw [hfa, hfb] at T0
      rw [hfb] at T3
      clear hfa hfb E EO
      go_wp2_with fail
      go_loopw [12] (fun iv wr => TM k g fa (fun x => opB 4 (fa x) (fb x)) w5 iv wr) (fun iv _ => k - (intOf iv).toNat)
      case atStart => exact ⟨0, by omega, rfl, T0.out⟩
      case round =>
        obtain ⟨j, hj, rfl, hr⟩ := hrel
        have HR := Lib.hid hr; clear hr
        by_cases hjn : j < k
        · have d0 := HR.out.cel j hjn
          rw [if_neg (by omega)] at d0
          have d1 := (World.cell?_of_block (a := ⟨g2, j, none⟩) (HR.out.kp.block g2 hgl2 (Ne.symm hgg))).trans (T3.out j hjn)
          have f0 := HR.out.fz j
          have i1 : (j : Int) < (k : Int) := by omega
          have i3 : (0 : Int) ≤ (j : Int) := by omega
          have ST := Lib.hid (HR.out.step hjn (Qt.refl wr))
          obtain ⟨b1, hb1⟩ : ∃ b, fa j = b := ⟨_, rfl⟩
          obtain ⟨b2, hb2⟩ : ∃ b, fb j = b := ⟨_, rfl⟩
          simp only [hb1, hb2] at d0 d1 ST
          clear hb1 hb2
          cases b1
          · simp only [opB4, Bool.true_and, Bool.false_and, Bool.true_or, Bool.false_or] at ST
            go_wp2_with fail
            go_roundw
            case rel => exact ⟨j + 1, by omega, by go_num, ST.out⟩
            case measure => simp [intOf]; omega
          · simp only [opB4, Bool.true_and, Bool.false_and, Bool.true_or, Bool.false_or] at ST
            go_wp2_with fail
            go_roundw
            case rel => exact ⟨j + 1, by omega, by go_num, ST.out⟩
            case measure => simp [intOf]; omega
        · obtain rfl : j = k := by omega
          have TD := Lib.hid (HR.out.done HK.out)
          have BK := Lib.hid (HR.out.kp.below B35.out hg)
          have hgr : g < wr.heap.size := by have := HR.out.kp.size; omega
          have CO := Lib.hid (ofTable_any (t := tl fun x => opB 4 (fa x) (fb x)) (n := j) (cap := j) (by rw [tl_length]; exact HK.out.symm) (by rw [HK.out]) (Nat.le_refl _) hgr TD.out)
          clear T0 HR
          go_wp2_with fail
          refine CO.out.mono ?_
          clear CO
          rintro e w6 ⟨a6, cap6, rfl, dn6, hb6⟩
          have B6 := Lib.hid (Below.over B3.out B3.out.size (Below.over BK.out BK.out.size hb6))
          have DN6 := Lib.hid (dn6.le BK.out.size)
          obtain ⟨z0, z1, z2, z3⟩ := cells2 (((Below.over BK.out BK.out.size hb6).block (w.heap.size + 1 + 1) (by omega)).trans c3.out)
          clear dn6 hb6
          have E := E1
          clear E1
          generalize outNodes (tl fun x => opB 4 (fa x) (fb x)) = O at *
          generalize outRoot (tl fun x => opB 4 (fa x) (fb x)) = rt at *
          generalize outErr (tl fun x => opB 4 (fa x) (fb x)) = er at *
          have l6 : w.heap.size + 1 + 1 < w6.heap.size := lt_of_cell z0
          have FN := Lib.hid (out_fin (x := .slice a6 O.length cap6) (y := .int .i64 rt) DN6.out (show w.heap.size ≤ w.heap.size + 1 + 1 by omega) (by omega) B6.out)
          go_wp2_with fail
          refine bodyPost_ret (v := .tuple #[.agg #[.slice a6 O.length cap6, .int .i64 rt], .int .i64 er]) (by simp [results, Try.results21, go_sem, z0, z1]) rfl ⟨a6, cap6, ?_, ?_, ?_⟩
          · rw [E.out.1, E.out.2.1, E.out.2.2]
          · rw [E.out.1]; exact FN.out.1
          · exact FN.out.2
    · have hcb : (ck != 0) = true := by simpa using hc
      have EP := Lib.hid ((apPre_b (da := da) (ra := ra) (db := db) (rb := rb) NO.out CKA.out).trans CK.out)
      have E := Lib.hid (de_no EP.out hc (opT 4 (tb da 16 ra) (tb db 16 rb)))
      have HC := Lib.hid hc; clear hc
      obtain ⟨z0, z1, z2, z3⟩ := cells2 c3.out
      have l6 : w.heap.size + 1 + 1 < w3.heap.size := by omega
      have FN := Lib.hid (out_fin (x := .slice none 0 0) (y := .int .i64 0) (dNew_nil (w.heap.size + 3) w3 none) (show w.heap.size ≤ w.heap.size + 1 + 1 by omega) (by omega) B3.out)
      go_wp2_with fail
      refine bodyPost_ret (v := .tuple #[.agg #[.slice none 0 0, .int .i64 0], .int .i64 ck]) (by simp [results, Try.results21, go_sem, z0, z1]) rfl ⟨none, 0, ?_, ?_, ?_⟩
      · rw [E.out.1, E.out.2.1, E.out.2.2]; rfl
      · rw [E.out.1]; exact dNew_nil _ _ _
      · exact FN.out.2
  · have hcb : (ck != 0) = true := by simpa using hc
    have EP := Lib.hid ((apPre_a (da := da) (ra := ra) (db := db) (rb := rb) NO.out (by rw [CK.out]; exact hc)).trans CK.out)
    have E := Lib.hid (de_no EP.out hc (opT 4 (tb da 16 ra) (tb db 16 rb)))
    have HC := Lib.hid hc; clear hc
    obtain ⟨z0, z1, z2, z3⟩ := cells2 b3.out
    have l6 : w.heap.size + 1 + 1 < w2.heap.size := by omega
    have FN := Lib.hid (out_fin (x := .slice none 0 0) (y := .int .i64 0) (dNew_nil (w.heap.size + 3) w2 none) (show w.heap.size ≤ w.heap.size + 1 + 1 by omega) (by omega) B2.out)
    go_wp2_with fail
    refine bodyPost_ret (v := .tuple #[.agg #[.slice none 0 0, .int .i64 0], .int .i64 ck]) (by simp [results, Try.results21, go_sem, z0, z1]) rfl ⟨none, 0, ?_, ?_, ?_⟩
    · rw [E.out.1, E.out.2.1, E.out.2.2]; rfl
    · rw [E.out.1]; exact dNew_nil _ _ _
    · exact FN.out.2

set_option maxRecDepth 100000 in
set_option maxHeartbeats 1500000 in
theorem applied_or {w : World} {da db : List Nd} {aa ab : Option Addr} {n m ca cb : Nat} {ra rb : Int} (hda : DAt w da aa) (hdb : DAt w db ab) (hn : da.length = n) (hm : db.length = m) (hl : n ≤ 9223372036854775807) (hl2 : m ≤ 9223372036854775807) :
    Calls Try.prog 21 #[.int .i64 5, .agg #[.slice aa n ca, .int .i64 ra], .agg #[.slice ab m cb, .int .i64 rb]] w (DePost w (apPre 5 da ra db rb) (opT 5 (tb da 16 ra) (tb db 16 rb))) := by
  obtain ⟨x1, x2, x3, x5, x6⟩ := three_new w (.cells #[.slice aa n ca, .int .i64 ra] 27) (.cells #[.slice ab m cb, .int .i64 rb] 27) (.cells #[.slice none 0 0, .int .i64 0] 27) _ rfl
  have X1 := Lib.hid x1; clear x1
  have X2 := Lib.hid x2; clear x2
  have X3 := Lib.hid x3; clear x3
  have X5 := Lib.hid x5; clear x5
  have X6 := Lib.hid x6; clear x6
  have HA := Lib.hid hda; clear hda
  have HB := Lib.hid hdb; clear hdb
  have C := Lib.hid (fault_any (cap := ca) (root := ra) (HA.out.below X6.out) hn hl)
  have HN := Lib.hid hn; clear hn
  have HM := Lib.hid hm; clear hm
  have NO : Hid (¬ ((5 : Int) ≠ 4 ∧ (5 : Int) ≠ 5 ∧ (5 : Int) ≠ 6)) := by show ¬ _; omega
  go_enter Try.func21, Try.ntmps21
  go_wp2_with fail
  generalize ((w.alloc (.cells #[.slice aa n ca, .int .i64 ra] 27)).alloc (.cells #[.slice ab m cb, .int .i64 rb] 27)).alloc (.cells #[.slice none 0 0, .int .i64 0] 27) = w1 at *
  refine C.out.mono ?_
  clear C
  rintro e w2 ⟨rfl, hb⟩
  have B2 := Lib.hid (Below.over X6.out X6.out.size hb)
  have b1 := Lib.hid ((hb.block _ (by rw [X5.out]; omega)).trans X1.out)
  have b2 := Lib.hid ((hb.block _ (by rw [X5.out]; omega)).trans X2.out)
  have b3 := Lib.hid ((hb.block _ (by rw [X5.out]; omega)).trans X3.out)
  have hsz2 : w.heap.size + 3 ≤ w2.heap.size := by have := hb.size; rw [X5.out] at this; exact this
  clear hb X1 X2 X3 X5 X6
  obtain ⟨ck, hck⟩ : ∃ ck, chk da ra = ck := ⟨_, rfl⟩
  rw [hck]
  have CK := Lib.hid hck; clear hck
  by_cases hc : ck = 0
  · subst hc
    have CKA := CK; clear CK
    have C := Lib.hid (fault_any (cap := cb) (root := rb) (HB.out.below B2.out) HM.out hl2)
    obtain ⟨y0, y1, _⟩ := cells2 b2.out
    go_wp2_with fail
    refine C.out.mono ?_
    clear C y0 y1
    rintro e w3 ⟨rfl, hb⟩
    have B3 := Lib.hid (Below.over B2.out B2.out.size hb)
    have c1 := Lib.hid ((hb.block w.heap.size (by omega)).trans b1.out)
    have c2 := Lib.hid ((hb.block (w.heap.size + 1) (by omega)).trans b2.out)
    have c3 := Lib.hid ((hb.block (w.heap.size + 1 + 1) (by omega)).trans b3.out)
    have hsz3 : w.heap.size + 3 ≤ w3.heap.size := by have := hb.size; omega
    clear hb b1 b2 b3
    obtain ⟨ck, hck⟩ : ∃ ck, chk db rb = ck := ⟨_, rfl⟩
    rw [hck]
    have CK := Lib.hid hck; clear hck
    by_cases hc : ck = 0
    · subst hc
      have EP := Lib.hid ((apPre_b (da := da) (ra := ra) (db := db) (rb := rb) NO.out CKA.out).trans CK.out)
      obtain ⟨q1, q2, q3, q4, q5⟩ := chk_zero CKA.out
      have ODA := Lib.hid q2
      have hn2 : n ≤ 2000 := by rw [HN.out] at q1; exact q1
      have RFA := Lib.hid q3
      clear q1 q2 q3 q4 q5
      obtain ⟨q1, q2, q3, q4, q5⟩ := chk_zero CK.out
      have ODB := Lib.hid q2
      have hm2 : m ≤ 2000 := by rw [HM.out] at q1; exact q1
      have RFB := Lib.hid q3
      clear q1 q2 q3 q4 q5
      obtain ⟨k, hk⟩ : ∃ n : Nat, n = 65536 := ⟨_, rfl⟩
      have CT := Lib.hid (table_any (cap := ca) (n := k) (HA.out.below B3.out) ODA.out RFA.out HN.out hn2 hk)
      have hk1 : k ≤ 65536 := by omega
      have HK := Lib.hid hk; clear hk
      obtain ⟨y0, y1, _⟩ := cells2 c1.out
      go_wp2_with fail
      refine CT.out.mono ?_
      clear CT y0 y1
      rintro e w4 ⟨g, hg, hgl, rfl, t1, t2, bl4⟩
      have B34 := Lib.hid bl4
      have B4 := Lib.hid (Below.over B3.out B3.out.size bl4)
      have T1 := Lib.hid t1; clear t1
      have T2 := Lib.hid t2; clear t2
      obtain ⟨y0, y1, _⟩ := cells2 ((bl4.block (w.heap.size + 1) (by omega)).trans c2.out)
      clear bl4
      have CT := Lib.hid (table_any (cap := cb) (n := k) (HB.out.below B4.out) ODB.out RFB.out HM.out hm2 HK.out)
      go_wp2_with fail
      refine CT.out.mono ?_
      clear CT y0 y1
      rintro e w5 ⟨g2, hg2, hgl2, rfl, t3, t4, bl5⟩
      have B35 := Lib.hid (Below.over B34.out B34.out.size bl5)
      have T3 := Lib.hid t3; clear t3
      have T0 := Lib.hid (TMr.start (f' := fun x => opB 5 (fnT (tb da 16 ra) x) (fnT (tb db 16 rb) x)) (fun j hj => cell_later bl5 (T1.out j hj)) (fun j => (bl5.frozen (p := ⟨g, j, none⟩) hgl).trans (T2.out j)))
      clear t4 bl5 T1 T2
      have hgg : g ≠ g2 := by omega
      obtain ⟨fa, hfa⟩ : ∃ ff, fnT (tb da 16 ra) = ff := ⟨_, rfl⟩
      obtain ⟨fb, hfb⟩ : ∃ ff, fnT (tb db 16 rb) = ff := ⟨_, rfl⟩
      have E := Lib.hid (de_ok EP.out (opT 5 (tb da 16 ra) (tb db 16 rb)))
      have EO : Hid (opT 5 (tb da 16 ra) (tb db 16 rb) = tl fun x => opB 5 (fa x) (fb x)) := by show _ = _; unfold opT; rw [hfa, hfb]
      have E1 : Hid (deN (apPre 5 da ra db rb) (opT 5 (tb da 16 ra) (tb db 16 rb)) = outNodes (tl fun x => opB 5 (fa x) (fb x)) ∧ deR (apPre 5 da ra db rb) (opT 5 (tb da 16 ra) (tb db 16 rb)) = outRoot (tl fun x => opB 5 (fa x) (fb x)) ∧ deE (apPre 5 da ra db rb) (opT 5 (tb da 16 ra) (tb db 16 rb)) = outErr (tl fun x => opB 5 (fa x) (fb x))) := by rw [← EO.out]; exact E.out
      rw [hfa, hfb] at T0
      rw [hfb] at T3
      clear hfa hfb E EO
      go_wp2_with fail
      go_loopw [12] (fun iv wr => TM k g fa (fun x => opB 5 (fa x) (fb x)) w5 iv wr) (fun iv _ => k - (intOf iv).toNat)
      case atStart => exact ⟨0, by omega, rfl, T0.out⟩
      case round =>
        obtain ⟨j, hj, rfl, hr⟩ := hrel
        have HR := Lib.hid hr; clear hr
        by_cases hjn : j < k
        · have d0 := HR.out.cel j hjn
          rw [if_neg (by omega)] at d0
          have d1 := (World.cell?_of_block (a := ⟨g2, j, none⟩) (HR.out.kp.block g2 hgl2 (Ne.symm hgg))).trans (T3.out j hjn)
          have f0 := HR.out.fz j
          have i1 : (j : Int) < (k : Int) := by omega
          have i3 : (0 : Int) ≤ (j : Int) := by omega
          have ST := Lib.hid (HR.out.step hjn (Qt.refl wr))
          obtain ⟨b1, hb1⟩ : ∃ b, fa j = b := ⟨_, rfl⟩
          obtain ⟨b2, hb2⟩ : ∃ b, fb j = b := ⟨_, rfl⟩
          simp only [hb1, hb2] at d0 d1 ST
          clear hb1 hb2
          cases b1
          · simp only [opB5, Bool.true_and, Bool.false_and, Bool.true_or, Bool.false_or] at ST
            go_wp2_with fail
            go_roundw
            case rel => exact ⟨j + 1, by omega, by go_num, ST.out⟩
            case measure => simp [intOf]; omega
          · simp only [opB5, Bool.true_and, Bool.false_and, Bool.true_or, Bool.false_or] at ST
            go_wp2_with fail
            go_roundw
            case rel => exact ⟨j + 1, by omega, by go_num, ST.out⟩
            case measure => simp [intOf]; omega
        · obtain rfl : j = k := by omega
          have TD := Lib.hid (HR.out.done HK.out)
          have BK := Lib.hid (HR.out.kp.below B35.out hg)
          have hgr : g < wr.heap.size := by have := HR.out.kp.size; omega
          have CO := Lib.hid (ofTable_any (t := tl fun x => opB 5 (fa x) (fb x)) (n := j) (cap := j) (by rw [tl_length]; exact HK.out.symm) (by rw [HK.out]) (Nat.le_refl _) hgr TD.out)
          clear T0 HR
          go_wp2_with fail
          refine CO.out.mono ?_
          clear CO
          rintro e w6 ⟨a6, cap6, rfl, dn6, hb6⟩
          have B6 := Lib.hid (Below.over B3.out B3.out.size (Below.over BK.out BK.out.size hb6))
          have DN6 := Lib.hid (dn6.le BK.out.size)
          obtain ⟨z0, z1, z2, z3⟩ := cells2 (((Below.over BK.out BK.out.size hb6).block (w.heap.size + 1 + 1) (by omega)).trans c3.out)
          clear dn6 hb6
          have E := E1
          clear E1
          generalize outNodes (tl fun x => opB 5 (fa x) (fb x)) = O at *
          generalize outRoot (tl fun x => opB 5 (fa x) (fb x)) = rt at *
          generalize outErr (tl fun x => opB 5 (fa x) (fb x)) = er at *
          have l6 : w.heap.size + 1 + 1 < w6.heap.size := lt_of_cell z0
          have FN := Lib.hid (out_fin (x := .slice a6 O.length cap6) (y := .int .i64 rt) DN6.out (show w.heap.size ≤ w.heap.size + 1 + 1 by omega) (by omega) B6.out)
          go_wp2_with fail
          refine bodyPost_ret (v := .tuple #[.agg #[.slice a6 O.length cap6, .int .i64 rt], .int .i64 er]) (by simp [results, Try.results21, go_sem, z0, z1]) rfl ⟨a6, cap6, ?_, ?_, ?_⟩
          · rw [E.out.1, E.out.2.1, E.out.2.2]
          · rw [E.out.1]; exact FN.out.1
          · exact FN.out.2
    · have hcb : (ck != 0) = true := by simpa using hc
      have EP := Lib.hid ((apPre_b (da := da) (ra := ra) (db := db) (rb := rb) NO.out CKA.out).trans CK.out)
      have E := Lib.hid (de_no EP.out hc (opT 5 (tb da 16 ra) (tb db 16 rb)))
      have HC := Lib.hid hc; clear hc
      obtain ⟨z0, z1, z2, z3⟩ := cells2 c3.out
      have l6 : w.heap.size + 1 + 1 < w3.heap.size := by omega
      have FN := Lib.hid (out_fin (x := .slice none 0 0) (y := .int .i64 0) (dNew_nil (w.heap.size + 3) w3 none) (show w.heap.size ≤ w.heap.size + 1 + 1 by omega) (by omega) B3.out)
      go_wp2_with fail
      refine bodyPost_ret (v := .tuple #[.agg #[.slice none 0 0, .int .i64 0], .int .i64 ck]) (by simp [results, Try.results21, go_sem, z0, z1]) rfl ⟨none, 0, ?_, ?_, ?_⟩
      · rw [E.out.1, E.out.2.1, E.out.2.2]; rfl
      · rw [E.out.1]; exact dNew_nil _ _ _
      · exact FN.out.2
  · have hcb : (ck != 0) = true := by simpa using hc
    have EP := Lib.hid ((apPre_a (da := da) (ra := ra) (db := db) (rb := rb) NO.out (by rw [CK.out]; exact hc)).trans CK.out)
    have E := Lib.hid (de_no EP.out hc (opT 5 (tb da 16 ra) (tb db 16 rb)))
    have HC := Lib.hid hc; clear hc
    obtain ⟨z0, z1, z2, z3⟩ := cells2 b3.out
    have l6 : w.heap.size + 1 + 1 < w2.heap.size := by omega
    have FN := Lib.hid (out_fin (x := .slice none 0 0) (y := .int .i64 0) (dNew_nil (w.heap.size + 3) w2 none) (show w.heap.size ≤ w.heap.size + 1 + 1 by omega) (by omega) B2.out)
    go_wp2_with fail
    refine bodyPost_ret (v := .tuple #[.agg #[.slice none 0 0, .int .i64 0], .int .i64 ck]) (by simp [results, Try.results21, go_sem, z0, z1]) rfl ⟨none, 0, ?_, ?_, ?_⟩
    · rw [E.out.1, E.out.2.1, E.out.2.2]; rfl
    · rw [E.out.1]; exact dNew_nil _ _ _
    · exact FN.out.2

set_option maxRecDepth 100000 in
set_option maxHeartbeats 1500000 in
theorem applied_xor {w : World} {da db : List Nd} {aa ab : Option Addr} {n m ca cb : Nat} {ra rb : Int} (hda : DAt w da aa) (hdb : DAt w db ab) (hn : da.length = n) (hm : db.length = m) (hl : n ≤ 9223372036854775807) (hl2 : m ≤ 9223372036854775807) :
    Calls Try.prog 21 #[.int .i64 6, .agg #[.slice aa n ca, .int .i64 ra], .agg #[.slice ab m cb, .int .i64 rb]] w (DePost w (apPre 6 da ra db rb) (opT 6 (tb da 16 ra) (tb db 16 rb))) := by
  obtain ⟨x1, x2, x3, x5, x6⟩ := three_new w (.cells #[.slice aa n ca, .int .i64 ra] 27) (.cells #[.slice ab m cb, .int .i64 rb] 27) (.cells #[.slice none 0 0, .int .i64 0] 27) _ rfl
  have X1 := Lib.hid x1; clear x1
  have X2 := Lib.hid x2; clear x2
  have X3 := Lib.hid x3; clear x3
  have X5 := Lib.hid x5; clear x5
  have X6 := Lib.hid x6; clear x6
  have HA := Lib.hid hda; clear hda
  have HB := Lib.hid hdb; clear hdb
  have C := Lib.hid (fault_any (cap := ca) (root := ra) (HA.out.below X6.out) hn hl)
  have HN := Lib.hid hn; clear hn
  have HM := Lib.hid hm; clear hm
  have NO : Hid (¬ ((6 : Int) ≠ 4 ∧ (6 : Int) ≠ 5 ∧ (6 : Int) ≠ 6)) := by show ¬ _; omega
  go_enter Try.func21, Try.ntmps21
  go_wp2_with fail
  generalize ((w.alloc (.cells #[.slice aa n ca, .int .i64 ra] 27)).alloc (.cells #[.slice ab m cb, .int .i64 rb] 27)).alloc (.cells #[.slice none 0 0, .int .i64 0] 27) = w1 at *
  refine C.out.mono ?_
  clear C
  rintro e w2 ⟨rfl, hb⟩
  have B2 := Lib.hid (Below.over X6.out X6.out.size hb)
  have b1 := Lib.hid ((hb.block _ (by rw [X5.out]; omega)).trans X1.out)
  have b2 := Lib.hid ((hb.block _ (by rw [X5.out]; omega)).trans X2.out)
  have b3 := Lib.hid ((hb.block _ (by rw [X5.out]; omega)).trans X3.out)
  have hsz2 : w.heap.size + 3 ≤ w2.heap.size := by have := hb.size; rw [X5.out] at this; exact this
  clear hb X1 X2 X3 X5 X6
  obtain ⟨ck, hck⟩ : ∃ ck, chk da ra = ck := ⟨_, rfl⟩
  rw [hck]
  have CK := Lib.hid hck; clear hck
  by_cases hc : ck = 0
  · subst hc
    have CKA := CK; clear CK
    have C := Lib.hid (fault_any (cap := cb) (root := rb) (HB.out.below B2.out) HM.out hl2)
    obtain ⟨y0, y1, _⟩ := cells2 b2.out
    go_wp2_with fail
    refine C.out.mono ?_
    clear C y0 y1
    rintro e w3 ⟨rfl, hb⟩
    have B3 := Lib.hid (Below.over B2.out B2.out.size hb)
    have c1 := Lib.hid ((hb.block w.heap.size (by omega)).trans b1.out)
    have c2 := Lib.hid ((hb.block (w.heap.size + 1) (by omega)).trans b2.out)
    have c3 := Lib.hid ((hb.block (w.heap.size + 1 + 1) (by omega)).trans b3.out)
    have hsz3 : w.heap.size + 3 ≤ w3.heap.size := by have := hb.size; omega
    clear hb b1 b2 b3
    obtain ⟨ck, hck⟩ : ∃ ck, chk db rb = ck := ⟨_, rfl⟩
    rw [hck]
    have CK := Lib.hid hck; clear hck
    by_cases hc : ck = 0
    · subst hc
      have EP := Lib.hid ((apPre_b (da := da) (ra := ra) (db := db) (rb := rb) NO.out CKA.out).trans CK.out)
      obtain ⟨q1, q2, q3, q4, q5⟩ := chk_zero CKA.out
      have ODA := Lib.hid q2
      have hn2 : n ≤ 2000 := by rw [HN.out] at q1; exact q1
      have RFA := Lib.hid q3
      clear q1 q2 q3 q4 q5
      obtain ⟨q1, q2, q3, q4, q5⟩ := chk_zero CK.out
      have ODB := Lib.hid q2
      have hm2 : m ≤ 2000 := by rw [HM.out] at q1; exact q1
      have RFB := Lib.hid q3
      clear q1 q2 q3 q4 q5
      obtain ⟨k, hk⟩ : ∃ n : Nat, n = 65536 := ⟨_, rfl⟩
      have CT := Lib.hid (table_any (cap := ca) (n := k) (HA.out.below B3.out) ODA.out RFA.out HN.out hn2 hk)
      have hk1 : k ≤ 65536 := by omega
      have HK := Lib.hid hk; clear hk
      obtain ⟨y0, y1, _⟩ := cells2 c1.out
      go_wp2_with fail
      refine CT.out.mono ?_
      clear CT y0 y1
      rintro e w4 ⟨g, hg, hgl, rfl, t1, t2, bl4⟩
      have B34 := Lib.hid bl4
      have B4 := Lib.hid (Below.over B3.out B3.out.size bl4)
      have T1 := Lib.hid t1; clear t1
      have T2 := Lib.hid t2; clear t2
      obtain ⟨y0, y1, _⟩ := cells2 ((bl4.block (w.heap.size + 1) (by omega)).trans c2.out)
      clear bl4
      have CT := Lib.hid (table_any (cap := cb) (n := k) (HB.out.below B4.out) ODB.out RFB.out HM.out hm2 HK.out)
      go_wp2_with fail
      refine CT.out.mono ?_
      clear CT y0 y1
      rintro e w5 ⟨g2, hg2, hgl2, rfl, t3, t4, bl5⟩
      have B35 := Lib.hid (Below.over B34.out B34.out.size bl5)
      have T3 := Lib.hid t3; clear t3
      have T0 := Lib.hid (TMr.start (f' := fun x => opB 6 (fnT (tb da 16 ra) x) (fnT (tb db 16 rb) x)) (fun j hj => cell_later bl5 (T1.out j hj)) (fun j => (bl5.frozen (p := ⟨g, j, none⟩) hgl).trans (T2.out j)))
      clear t4 bl5 T1 T2
      have hgg : g ≠ g2 := by omega
      obtain ⟨fa, hfa⟩ : ∃ ff, fnT (tb da 16 ra) = ff := ⟨_, rfl⟩
      obtain ⟨fb, hfb⟩ : ∃ ff, fnT (tb db 16 rb) = ff := ⟨_, rfl⟩
      have E := Lib.hid (de_ok EP.out (opT 6 (tb da 16 ra) (tb db 16 rb)))
      have EO : Hid (opT 6 (tb da 16 ra) (tb db 16 rb) = tl fun x => opB 6 (fa x) (fb x)) := by show _ = _; unfold opT; rw [hfa, hfb]
      have E1 : Hid (deN (apPre 6 da ra db rb) (opT 6 (tb da 16 ra) (tb db 16 rb)) = outNodes (tl fun x => opB 6 (fa x) (fb x)) ∧ deR (apPre 6 da ra db rb) (opT 6 (tb da 16 ra) (tb db 16 rb)) = outRoot (tl fun x => opB 6 (fa x) (fb x)) ∧ deE (apPre 6 da ra db rb) (opT 6 (tb da 16 ra) (tb db 16 rb)) = outErr (tl fun x => opB 6 (fa x) (fb x))) := by rw [← EO.out]; exact E.out
      rw [hfa, hfb] at T0
      rw [hfb] at T3
      clear hfa hfb E EO
      go_wp2_with fail
      go_loopw [12] (fun iv wr => TM k g fa (fun x => opB 6 (fa x) (fb x)) w5 iv wr) (fun iv _ => k - (intOf iv).toNat)
      case atStart => exact ⟨0, by omega, rfl, T0.out⟩
      case round =>
        obtain ⟨j, hj, rfl, hr⟩ := hrel
        have HR := Lib.hid hr; clear hr
        by_cases hjn : j < k
        · have d0 := HR.out.cel j hjn
          rw [if_neg (by omega)] at d0
          have d1 := (World.cell?_of_block (a := ⟨g2, j, none⟩) (HR.out.kp.block g2 hgl2 (Ne.symm hgg))).trans (T3.out j hjn)
          have f0 := HR.out.fz j
          have i1 : (j : Int) < (k : Int) := by omega
          have i3 : (0 : Int) ≤ (j : Int) := by omega
          have ST := Lib.hid (HR.out.step hjn (Qt.refl wr))
          obtain ⟨b1, hb1⟩ : ∃ b, fa j = b := ⟨_, rfl⟩
          obtain ⟨b2, hb2⟩ : ∃ b, fb j = b := ⟨_, rfl⟩
          simp only [hb1, hb2] at d0 d1 ST
          have ST6 := Lib.hid (HR.out.step hjn (Qt.refl wr).drew)
          simp only [hb1, hb2, opB6] at ST6
          go_wp2_with fail
          go_region
          go_wp2_with fail
          go_roundw
          case rel => exact ⟨j + 1, by omega, by go_num, ST6.out⟩
          case measure => simp [intOf]; omega
        · obtain rfl : j = k := by omega
          have TD := Lib.hid (HR.out.done HK.out)
          have BK := Lib.hid (HR.out.kp.below B35.out hg)
          have hgr : g < wr.heap.size := by have := HR.out.kp.size; omega
          have CO := Lib.hid (ofTable_any (t := tl fun x => opB 6 (fa x) (fb x)) (n := j) (cap := j) (by rw [tl_length]; exact HK.out.symm) (by rw [HK.out]) (Nat.le_refl _) hgr TD.out)
          clear T0 HR
          go_wp2_with fail
          refine CO.out.mono ?_
          clear CO
          rintro e w6 ⟨a6, cap6, rfl, dn6, hb6⟩
          have B6 := Lib.hid (Below.over B3.out B3.out.size (Below.over BK.out BK.out.size hb6))
          have DN6 := Lib.hid (dn6.le BK.out.size)
          obtain ⟨z0, z1, z2, z3⟩ := cells2 (((Below.over BK.out BK.out.size hb6).block (w.heap.size + 1 + 1) (by omega)).trans c3.out)
          clear dn6 hb6
          have E := E1
          clear E1
          generalize outNodes (tl fun x => opB 6 (fa x) (fb x)) = O at *
          generalize outRoot (tl fun x => opB 6 (fa x) (fb x)) = rt at *
          generalize outErr (tl fun x => opB 6 (fa x) (fb x)) = er at *
          have l6 : w.heap.size + 1 + 1 < w6.heap.size := lt_of_cell z0
          have FN := Lib.hid (out_fin (x := .slice a6 O.length cap6) (y := .int .i64 rt) DN6.out (show w.heap.size ≤ w.heap.size + 1 + 1 by omega) (by omega) B6.out)
          go_wp2_with fail
          refine bodyPost_ret (v := .tuple #[.agg #[.slice a6 O.length cap6, .int .i64 rt], .int .i64 er]) (by simp [results, Try.results21, go_sem, z0, z1]) rfl ⟨a6, cap6, ?_, ?_, ?_⟩
          · rw [E.out.1, E.out.2.1, E.out.2.2]
          · rw [E.out.1]; exact FN.out.1
          · exact FN.out.2
    · have hcb : (ck != 0) = true := by simpa using hc
      have EP := Lib.hid ((apPre_b (da := da) (ra := ra) (db := db) (rb := rb) NO.out CKA.out).trans CK.out)
      have E := Lib.hid (de_no EP.out hc (opT 6 (tb da 16 ra) (tb db 16 rb)))
      have HC := Lib.hid hc; clear hc
      obtain ⟨z0, z1, z2, z3⟩ := cells2 c3.out
      have l6 : w.heap.size + 1 + 1 < w3.heap.size := by omega
      have FN := Lib.hid (out_fin (x := .slice none 0 0) (y := .int .i64 0) (dNew_nil (w.heap.size + 3) w3 none) (show w.heap.size ≤ w.heap.size + 1 + 1 by omega) (by omega) B3.out)
      go_wp2_with fail
      refine bodyPost_ret (v := .tuple #[.agg #[.slice none 0 0, .int .i64 0], .int .i64 ck]) (by simp [results, Try.results21, go_sem, z0, z1]) rfl ⟨none, 0, ?_, ?_, ?_⟩
      · rw [E.out.1, E.out.2.1, E.out.2.2]; rfl
      · rw [E.out.1]; exact dNew_nil _ _ _
      · exact FN.out.2
  · have hcb : (ck != 0) = true := by simpa using hc
    have EP := Lib.hid ((apPre_a (da := da) (ra := ra) (db := db) (rb := rb) NO.out (by rw [CK.out]; exact hc)).trans CK.out)
    have E := Lib.hid (de_no EP.out hc (opT 6 (tb da 16 ra) (tb db 16 rb)))
    have HC := Lib.hid hc; clear hc
    obtain ⟨z0, z1, z2, z3⟩ := cells2 b3.out
    have l6 : w.heap.size + 1 + 1 < w2.heap.size := by omega
    have FN := Lib.hid (out_fin (x := .slice none 0 0) (y := .int .i64 0) (dNew_nil (w.heap.size + 3) w2 none) (show w.heap.size ≤ w.heap.size + 1 + 1 by omega) (by omega) B2.out)
    go_wp2_with fail
    refine bodyPost_ret (v := .tuple #[.agg #[.slice none 0 0, .int .i64 0], .int .i64 ck]) (by simp [results, Try.results21, go_sem, z0, z1]) rfl ⟨none, 0, ?_, ?_, ?_⟩
    · rw [E.out.1, E.out.2.1, E.out.2.2]; rfl
    · rw [E.out.1]; exact dNew_nil _ _ _
    · exact FN.out.2

theorem applied_any {w : World} {op : Int} {da db : List Nd} {aa ab : Option Addr} {n m ca cb : Nat} {ra rb : Int} (hda : DAt w da aa) (hdb : DAt w db ab) (hn : da.length = n) (hm : db.length = m) (hl : n ≤ 9223372036854775807) (hl2 : m ≤ 9223372036854775807) :
    Calls Try.prog 21 #[.int .i64 op, .agg #[.slice aa n ca, .int .i64 ra], .agg #[.slice ab m cb, .int .i64 rb]] w (DePost w (apPre op da ra db rb) (opT op (tb da 16 ra) (tb db 16 rb))) := by
  by_cases h4 : op = 4
  · subst h4; exact applied_and hda hdb hn hm hl hl2
  · by_cases h5 : op = 5
    · subst h5; exact applied_or hda hdb hn hm hl hl2
    · by_cases h6 : op = 6
      · subst h6; exact applied_xor hda hdb hn hm hl hl2
      · have e := apPre_op (da := da) (ra := ra) (db := db) (rb := rb) ⟨h4, h5, h6⟩
        have := de_no e (by omega) (opT op (tb da 16 ra) (tb db 16 rb))
        unfold DePost
        rw [this.1, this.2.1, this.2.2]
        exact applied_op (by simpa using h4) (by simpa using h5) (by simpa using h6)

end Go.Proofs.Ythhogbligfmpdaa
