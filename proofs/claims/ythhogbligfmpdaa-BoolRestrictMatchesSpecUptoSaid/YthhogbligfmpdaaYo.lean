/- The reference's Existing. -/
import Derived.Test.YthhogbligfmpdaaYn
import Derived.Test.YthhogbligfmpdaaYh
set_option linter.unusedVariables false
set_option linter.unusedSimpArgs false
namespace Go.Proofs.Ythhogbligfmpdaa
open Go.RowKit Bd

theorem or_set2 {x k mk : Nat} (hmk : 2 ^ k = mk) (hk : k < 16) (hx : x < 65536) : bits .or .i64 (x : Int) (mk : Int) = ((setb k true x : Nat) : Int) := by
  have hm : mk < 65536 := by rw [← hmk, ← two16]; exact Nat.pow_lt_pow_right (by omega) hk
  rw [bits_or_i64_nat _ _ (by omega) (by omega), ← hmk]
  rfl

def EvL (vs : List Int) (n : Nat) (w : World) (iv : Value) (wr : World) : Prop :=
  ∃ k : Nat, k ≤ n ∧ iv = .int .i64 k ∧ (∀ i : Nat, i < k → 0 ≤ vs.getD i 0 ∧ vs.getD i 0 < 16) ∧ Qt w wr

def EgL (vs : List Int) (f : Nat → Bool) (N L : Nat) (w : World) (tv iv : Value) (wr : World) : Prop :=
  ∃ j g : Nat, j ≤ L ∧ iv = .int .i64 j ∧ tv = .slice (some ⟨g, 0, none⟩) N N ∧ w.heap.size ≤ g ∧ g < wr.heap.size ∧ (∀ x, x < N → wr.cell? ⟨g, x, none⟩ = some (.bool (exV (vs.take j) f x))) ∧ Below w.heap.size w wr

set_option maxRecDepth 100000 in
set_option maxHeartbeats 2000000 in
theorem existing_any {w : World} {ds : List Nd} {a : Option Addr} {m cap : Nat} {root : Int} (hd : DAt w ds a) (hm : ds.length = m) (hl : m ≤ 9223372036854775807) {vs : List Int} {va : Option Addr} {vn vc : Nat} (hv : IAt w vs va) (hvn : vs.length = vn) (hvl : vn ≤ 9223372036854775807) :
    Calls Try.prog 37 #[.agg #[.slice a m cap, .int .i64 root], .slice va vn vc] w (DePost w (exErr (chk ds root) vs) (tl (exV vs (fnT (tb ds 16 root))))) := by
  obtain ⟨x1, x2, x3, x4⟩ := two_new w (.cells #[.slice a m cap, .int .i64 root] 27) (.cells #[.slice none 0 0, .int .i64 0] 27) _ rfl
  have X1 := Lib.hid x1; clear x1
  have X2 := Lib.hid x2; clear x2
  have X3 := Lib.hid x3; clear x3
  have X4 := Lib.hid x4; clear x4
  have HD := Lib.hid hd; clear hd
  have HV := Lib.hid hv; clear hv
  have C := Lib.hid (fault_any (cap := cap) (root := root) (HD.out.below X4.out) hm hl)
  have HM := Lib.hid hm; clear hm
  have HVN := Lib.hid hvn; clear hvn
  obtain ⟨i0, hi0, hz0, hz1, hz2⟩ := info_parts info4
  go_enter Try.func37, Try.ntmps37
  go_wp2_with fail
  generalize (w.alloc (.cells #[.slice a m cap, .int .i64 root] 27)).alloc (.cells #[.slice none 0 0, .int .i64 0] 27) = w1 at *
  refine C.out.mono ?_
  clear C
  rintro e w2 ⟨rfl, hb⟩
  have B2 := Lib.hid (Below.over X4.out X4.out.size hb)
  have b1 := Lib.hid ((hb.block _ (by rw [X3.out]; omega)).trans X1.out)
  have b2 := Lib.hid ((hb.block _ (by rw [X3.out]; omega)).trans X2.out)
  have hsz2 : w.heap.size + 2 ≤ w2.heap.size := by have := hb.size; rw [X3.out] at this; exact this
  clear hb X1 X2 X3 X4
  obtain ⟨ck, hck⟩ : ∃ ck, chk ds root = ck := ⟨_, rfl⟩
  rw [hck]
  have CK := Lib.hid hck; clear hck
  by_cases hc : ck = 0
  · subst hc
    obtain ⟨q1, q2, q3, q4, q5⟩ := chk_zero CK.out
    have OD := Lib.hid q2; clear q2 q4 q5
    have hm2 : m ≤ 2000 := by rw [HM.out] at q1; exact q1
    have RF := Lib.hid q3; clear q3 q1
    go_wp2_with fail
    go_loopw [7] (fun iv wr => EvL vs vn w2 iv wr) (fun iv _ => vn - (intOf iv).toNat)
    case atStart => exact ⟨0, by omega, rfl, fun i hi => absurd hi (by omega), Qt.refl _⟩
    case round =>
      obtain ⟨k, hk, rfl, f1, hq⟩ := hrel
      have F1 := Lib.hid f1; clear f1
      have HQ := Lib.hid hq; clear hq
      have BR : Hid (Below w.heap.size w wr) := Below.over B2.out B2.out.size HQ.out.below
      have bs : w2.heap.size ≤ wr.heap.size := HQ.out.below.size
      by_cases hkn : k < vn
      · have j1 : (k : Int) < (vn : Int) := by omega
        have hkd : k < vs.length := by rw [HVN.out]; exact hkn
        obtain ⟨bd, od, rfl, d1⟩ := HV.out (by intro e; rw [e] at hkd; simp at hkd)
        have p1 := (BR.out.cell (p := ⟨bd, od + k, none⟩) (lt_of_cell (d1 k hkd))).trans (d1 k hkd)
        clear d1
        obtain ⟨v, hx⟩ : ∃ x, vs.getD k 0 = x := ⟨_, rfl⟩
        rw [hx] at p1
        have HX := Lib.hid hx; clear hx
        by_cases hv : 0 ≤ v ∧ v < 16
        · obtain ⟨hv0, hv1⟩ := hv
          have hn0 : ¬ v < 0 := by omega
          have hn1 : ¬ 16 ≤ v := by omega
          go_wp2_with fail
          go_roundw
          case rel => exact ⟨k + 1, by omega, by go_num, fun i hi => by
            rcases lt_succ hi with e | e
            · exact F1.out i e
            · rw [e, HX.out]; exact ⟨hv0, hv1⟩, HQ.out⟩
          case measure => simp [intOf]; omega
        · have hbad : ¬ ∀ z ∈ vs, 0 ≤ z ∧ z < 16 := fun h => hv (by rw [← HX.out]; exact h _ (getI_mem hkd))
          have E := Lib.hid (de_no (show exErr (chk ds root) vs = 1 by rw [CK.out]; exact exErr_arg hbad) (by omega) (tl (exV vs (fnT (tb ds 16 root)))))
          clear hbad
          obtain ⟨z0, z1, z2, z3⟩ := cells2 ((HQ.out.below.block (w.heap.size + 1) (by omega)).trans b2.out)
          have FN := Lib.hid (out_fin (x := .slice none 0 0) (y := .int .i64 0) (dNew_nil (w.heap.size + 2) wr none) (show w.heap.size ≤ w.heap.size + 1 by omega) (by omega) BR.out)
          rcases Int.lt_or_le v 0 with hv0 | hv0
          · clear hv
            go_wp2_with fail
            refine bodyPost_ret (v := .tuple #[.agg #[.slice none 0 0, .int .i64 0], .int .i64 1]) (by simp [results, Try.results37, go_sem, z0, z1]) rfl ⟨none, 0, ?_, ?_, ?_⟩
            · rw [E.out.1, E.out.2.1, E.out.2.2]; rfl
            · rw [E.out.1]; exact dNew_nil _ _ _
            · exact FN.out.2
          · have hv1 : 16 ≤ v := by omega
            have hn0 : ¬ v < 0 := by omega
            clear hv
            go_wp2_with fail
            refine bodyPost_ret (v := .tuple #[.agg #[.slice none 0 0, .int .i64 0], .int .i64 1]) (by simp [results, Try.results37, go_sem, z0, z1]) rfl ⟨none, 0, ?_, ?_, ?_⟩
            · rw [E.out.1, E.out.2.1, E.out.2.2]; rfl
            · rw [E.out.1]; exact dNew_nil _ _ _
            · exact FN.out.2
      · obtain rfl : k = vn := by omega
        have j1 : ¬ ((k : Int) < (k : Int)) := by omega
        have ALL : Hid (∀ z ∈ vs, 0 ≤ z ∧ z < 16) := fun z hz => by
          obtain ⟨i, hi, rfl⟩ := List.getElem_of_mem hz
          have := F1.out i (by rw [HVN.out] at hi; omega)
          rw [List.getD_eq_getElem?_getD, List.getElem?_eq_getElem hi] at this
          exact this
        have EX : Hid (exErr (chk ds root) vs = 0) := by show _ = _; rw [CK.out]; exact exErr_ok ALL.out
        clear F1
        obtain ⟨y0, y1, _⟩ := cells2 ((HQ.out.below.block _ (by omega)).trans b1.out)
        obtain ⟨n, hn⟩ : ∃ n : Nat, n = 65536 := ⟨_, rfl⟩
        have CT := Lib.hid (table_any (cap := cap) (n := n) (HD.out.below BR.out) OD.out RF.out HM.out hm2 hn)
        have hn1 : n ≤ 65536 := by omega
        have HN := Lib.hid hn; clear hn
        go_wp2_with fail
        refine CT.out.mono ?_
        clear CT y0 y1
        rintro e w3 ⟨g, hg, hgl, rfl, t1, t2, bl3⟩
        have T1 := Lib.hid t1; clear t1 t2
        have B3 := Lib.hid bl3; clear bl3
        obtain ⟨f0, hf0⟩ : ∃ f0, fnT (tb ds 16 root) = f0 := ⟨_, rfl⟩
        rw [hf0] at T1
        have hw2 : w2.heap.size ≤ wr.heap.size := bs
        obtain ⟨w5, rfl⟩ : ∃ w5 : World, w5 = wr := ⟨_, rfl⟩
        go_wp2_with fail
        go_loopw [8, 9] (fun tv iv wq => EgL vs f0 n k w5 tv iv wq) (fun _ iv _ => k - (intOf iv).toNat)
        case atStart => exact ⟨0, g, by omega, rfl, rfl, hg, hgl, T1.out, B3.out⟩
        case round =>
          obtain ⟨j, gj, hj, rfl, rfl, hgj, hgjl, tj, blj⟩ := hrel
          have TJ := Lib.hid tj; clear tj
          have BJ := Lib.hid blj; clear blj
          have BRj : Hid (Below w.heap.size w wr) := Below.over BR.out BR.out.size BJ.out
          by_cases hjn : j < k
          · have j2 : (j : Int) < (k : Int) := by omega
            have hjd : j < vs.length := by rw [HVN.out]; exact hjn
            obtain ⟨bd, od, rfl, d1⟩ := HV.out (by intro e; rw [e] at hjd; simp at hjd)
            have p1 := (BRj.out.cell (p := ⟨bd, od + j, none⟩) (lt_of_cell (d1 j hjd))).trans (d1 j hjd)
            clear d1
            obtain ⟨v, hx⟩ : ∃ x, vs.getD j 0 = x := ⟨_, rfl⟩
            rw [hx] at p1
            obtain ⟨hv0, hv16⟩ : 0 ≤ v ∧ v < 16 := by rw [← hx]; exact ALL.out _ (getI_mem hjd)
            have TS := Lib.hid (take_snoc hjd)
            rw [hx] at TS
            clear hx
            obtain ⟨kx, hk16⟩ := kO_is hv0 hv16
            obtain ⟨k0, hk0⟩ : ∃ k0, kO v = k0 := ⟨_, rfl⟩
            have TK : Hid (exV (vs.take (j + 1)) f0 = exB k0 (exV (vs.take j) f0)) := by show _ = _; rw [TS.out, exV_snoc, hk0]
            rw [hk0] at kx hk16
            clear hk0 TS
            obtain ⟨fj, hfj⟩ : ∃ fj, exV (vs.take j) f0 = fj := ⟨_, rfl⟩
            rw [hfj] at TK TJ
            clear hfj
            obtain ⟨mk, hmk⟩ : ∃ mk, 2 ^ k0 = mk := ⟨_, rfl⟩
            have hmk6 : mk ≤ 65536 := by rw [← hmk, ← two16]; exact pow_mono (by omega)
            have WM : Hid (IntKind.i64.wrap ((2 : Int) ^ ((15 : Int) - v).toNat) = (mk : Int) ∧ IntKind.i64.wrap ((1 : Int) * 2 ^ ((15 : Int) - v).toNat) = (mk : Int)) := by
              have e : ((15 : Int) - v).toNat = k0 := by omega
              rw [e]; exact one_wrap hmk hmk6
            have HMK := Lib.hid hmk; clear hmk
            have wm1 := WM.out.1
            have wm2 := WM.out.2
            clear kx
            go_wp2_with (at_make; refine wpList_make_full _ rfl _ _ 33 rfl 0 4 i0 (.bool false) 1 Try.underlying33 hi0 hz0 hz1 .i64 .i64 (n : Int) (n : Int) n rfl rfl rfl rfl (by rw [hz2]; omega) (by unfold maxLen; omega) (Nat.zero_le _) ?_; intro w4 hown1 hg1; have OW := Lib.hid hown1; have GR := Lib.hid hg1; clear hown1 hg1)
            clear wm1 wm2 WM
            obtain ⟨w6, rfl⟩ : ∃ w6 : World, w6 = wr := ⟨_, rfl⟩
            go_loopw [12] (fun i wr => FT n w6.heap.size (exB k0 fj) w4 i wr) (fun i _ => n - (intOf i).toNat)
            case atStart => exact ft_made OW.out
            case round =>
              obtain ⟨x, hx, rfl, h1, h2, h3, h4, h5⟩ := hrel
              have B64 : Hid (Below w6.heap.size w6 w4) := ⟨GR.out.os, GR.out.tape, GR.out.output, GR.out.size, fun k hk => GR.out.block k hk (by simp)⟩
              by_cases hxn : x < n
              · have i1 : (x : Int) < (n : Int) := by omega
                have x6 : x < 65536 := by omega
                have AN := andNot_set HMK.out hk16 x6
                have OS := or_set2 HMK.out hk16 x6
                have sl0 : setb k0 false x < 65536 := by have := setb_lt (b := false) hk16 (show x < 2 ^ 16 by rw [two16]; exact x6); rw [two16] at this; exact this
                have sl1 : setb k0 true x < 65536 := by have := setb_lt (b := true) hk16 (show x < 2 ^ 16 by rw [two16]; exact x6); rw [two16] at this; exact this
                obtain ⟨u, hu⟩ := h2 x hxn
                have fz := h3 x
                have ST := Lib.hid (ft_step (f := exB k0 fj) (w2 := wr) hxn h1 h2 h3 h4 h5 (Below.refl _ _))
                have cc : ∀ y, y < n → wr.cell? ⟨gj, y, none⟩ = some (.bool (fj y)) := fun y hy =>
                  (World.cell?_of_block (a := ⟨gj, y, none⟩) ((h4.block gj hgjl).trans (B64.out.block gj hgjl))).trans (TJ.out y hy)
                have c0 := cc (setb k0 false x) (by rw [HN.out]; exact sl0)
                have c1 := cc (setb k0 true x) (by rw [HN.out]; exact sl1)
                clear cc h1 h2 h3 h4
                have sn0 : ((setb k0 false x : Nat) : Int) < (n : Int) := by rw [HN.out]; omega
                have sn1 : ((setb k0 true x : Nat) : Int) < (n : Int) := by rw [HN.out]; omega
                have ex : exB k0 fj x = (fj (setb k0 false x) || fj (setb k0 true x)) := rfl
                rw [ex] at ST
                clear ex
                generalize fj (setb k0 false x) = p0 at *
                generalize fj (setb k0 true x) = p1 at *
                generalize setb k0 false x = sx at *
                generalize setb k0 true x = sy at *
                cases p0
                · go_wp2_with fail
                  go_roundw
                  case rel => exact ST.out
                  case measure => simp [intOf]; omega
                · go_wp2_with fail
                  go_roundw
                  case rel => exact ST.out
                  case measure => simp [intOf]; omega
              · obtain rfl : x = n := by omega
                have i1 : ¬ ((x : Int) < (x : Int)) := by omega
                have BK := Lib.hid (BJ.out.trans ((B64.out.trans h4).mono BJ.out.size))
                have H1 := Lib.hid h1
                clear h1 h2 h3 h4
                go_wp2_with fail
                go_roundw
                case rel => exact ⟨j + 1, w6.heap.size, by omega, by go_num, rfl, BJ.out.size, h5, by rw [TK.out]; exact H1.out, BK.out⟩
                case measure => simp [intOf]; omega
          · obtain rfl : j = k := by omega
            have j2 : ¬ ((j : Int) < (j : Int)) := by omega
            have EV : Hid (vs.take j = vs) := List.take_of_length_le (by rw [HVN.out]; exact Nat.le_refl _)
            rw [EV.out] at TJ
            have TD := Lib.hid (ft_done (f := exV vs f0) (wr := wr) fun y hy => TJ.out y (by rw [HN.out]; exact hy))
            have CO := Lib.hid (ofTable_any (t := tl (exV vs f0)) (n := n) (cap := n) (by rw [tl_length]; exact HN.out.symm) (by rw [HN.out]) (Nat.le_refl _) hgjl TD.out)
            have E := Lib.hid (de_ok EX.out (tl (exV vs f0)))
            have EC2 : Hid (DePost w (exErr (chk ds root) vs) (tl (exV vs (fnT (Bd.tb ds 16 root)))) = DePost w (exErr (chk ds root) vs) (tl (exV vs f0))) := by show _ = _; rw [hf0]
            go_wp2_with fail
            refine CO.out.mono ?_
            clear CO
            rintro e w8 ⟨a8, cap8, rfl, dn8, hb8⟩
            have B8 := Lib.hid (Below.over BRj.out BRj.out.size hb8)
            have DN8 := Lib.hid (dn8.le BRj.out.size)
            obtain ⟨z0, z1, z2, z3⟩ := cells2 (((Below.over BJ.out BJ.out.size hb8).block (w.heap.size + 1) (by omega)).trans ((HQ.out.below.block (w.heap.size + 1) (by omega)).trans b2.out))
            have DN9 := Lib.hid (dn8.le (show w.heap.size + 2 ≤ wr.heap.size by have := BJ.out.size; omega))
            clear dn8 hb8
            generalize outNodes (tl (exV vs f0)) = O at *
            generalize outRoot (tl (exV vs f0)) = rt at *
            generalize outErr (tl (exV vs f0)) = er at *
            have l8 : w.heap.size + 1 < w8.heap.size := lt_of_cell z0
            have FN := Lib.hid (out_fin (x := .slice a8 O.length cap8) (y := .int .i64 rt) DN9.out (show w.heap.size ≤ w.heap.size + 1 by omega) (by omega) B8.out)
            go_wp2_with fail
            refine bodyPost_ret (v := .tuple #[.agg #[.slice a8 O.length cap8, .int .i64 rt], .int .i64 er]) (by simp [results, Try.results37, go_sem, z0, z1]) rfl ?_
            rw [EC2.out]
            refine ⟨a8, cap8, ?_, ?_, ?_⟩
            · rw [E.out.1, E.out.2.1, E.out.2.2]
            · rw [E.out.1]; exact FN.out.1
            · exact FN.out.2
  · have hcb : (ck != 0) = true := by simpa using hc
    have E := Lib.hid (de_no (show exErr (chk ds root) vs = ck by rw [CK.out]; exact exErr_bad hc vs) hc (tl (exV vs (fnT (tb ds 16 root)))))
    have HC := Lib.hid hc; clear hc
    obtain ⟨z0, z1, z2, z3⟩ := cells2 b2.out
    have FN := Lib.hid (out_fin (x := .slice none 0 0) (y := .int .i64 0) (dNew_nil (w.heap.size + 2) w2 none) (show w.heap.size ≤ w.heap.size + 1 by omega) (by omega) B2.out)
    go_wp2_with fail
    refine bodyPost_ret (v := .tuple #[.agg #[.slice none 0 0, .int .i64 0], .int .i64 ck]) (by simp [results, Try.results37, go_sem, z0, z1]) rfl ⟨none, 0, ?_, ?_, ?_⟩
    · rw [E.out.1, E.out.2.1, E.out.2.2]; rfl
    · rw [E.out.1]; exact dNew_nil _ _ _
    · exact FN.out.2

end Go.Proofs.Ythhogbligfmpdaa
