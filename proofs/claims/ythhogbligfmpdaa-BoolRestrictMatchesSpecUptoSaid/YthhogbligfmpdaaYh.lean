/- The reference's Restricted. -/
import Derived.Test.YthhogbligfmpdaaYf
import Derived.Test.YthhogbligfmpdaaXn
import Derived.Test.YthhogbligfmpdaaXx
set_option linter.unusedVariables false
set_option linter.unusedSimpArgs false
namespace Go.Proofs.Ythhogbligfmpdaa
open Go.RowKit Bd

theorem andNot_set {x k mk : Nat} (hmk : 2 ^ k = mk) (hk : k < 16) (hx : x < 65536) : bits .andNot .i64 (x : Int) (mk : Int) = ((setb k false x : Nat) : Int) := by
  have hm : mk < 65536 := by rw [← hmk, ← two16]; exact Nat.pow_lt_pow_right (by omega) hk
  have h1 : (BitVec.ofInt 64 (x : Int)).toNat = x := by
    rw [BitVec.ofInt_natCast, BitVec.toNat_ofNat]; exact Nat.mod_eq_of_lt (by omega)
  have h2 : (BitVec.ofInt 64 (mk : Int)).toNat = mk := by
    rw [BitVec.ofInt_natCast, BitVec.toNat_ofNat]; exact Nat.mod_eq_of_lt (by omega)
  have hs : setb k false x < 2 ^ 16 := setb_lt hk (by rw [two16]; exact hx)
  show IntKind.i64.wrap ((BitVec.ofInt 64 (x : Int) &&& ~~~ BitVec.ofInt 64 (mk : Int)).toNat : Int) = _
  have e : (BitVec.ofInt 64 (x : Int) &&& ~~~ BitVec.ofInt 64 (mk : Int)).toNat = setb k false x := by
    apply Nat.eq_of_testBit_eq
    intro i
    rw [BitVec.testBit_toNat, BitVec.getLsbD_and, BitVec.getLsbD_not, ← BitVec.testBit_toNat, ← BitVec.testBit_toNat, h1, h2, setb_bit, ← hmk, Nat.testBit_two_pow]
    by_cases h64 : i < 64
    · by_cases e : i = k
      · subst e; simp
      · have e2 : ¬ k = i := fun h => e h.symm
        simp [h64, e, e2]
    · have : x.testBit i = false := Nat.testBit_lt_two_pow (Nat.lt_of_lt_of_le (by rw [← two16] at hx; exact hx) (pow_mono (by omega)))
      simp [this]
  rw [e]
  rw [two16] at hs
  exact IntWalk.i64_in _ (by omega)
theorem or_zero_set {s : Nat} (h : s < 65536) : bits .or .i64 (s : Int) 0 = (s : Int) := by
  have := bits_or_i64_nat s 0 (by omega) (by omega)
  simpa using this
theorem or_set {x k mk : Nat} (hmk : 2 ^ k = mk) (hk : k < 16) (hx : x < 65536) : bits .or .i64 ((setb k false x : Nat) : Int) (mk : Int) = ((setb k true x : Nat) : Int) := by
  have hs : setb k false x < 2 ^ 16 := setb_lt hk (by rw [two16]; exact hx)
  have hm : mk < 65536 := by rw [← hmk, ← two16]; exact Nat.pow_lt_pow_right (by omega) hk
  rw [two16] at hs
  rw [bits_or_i64_nat _ _ (by omega) (by omega)]
  congr 1
  apply Nat.eq_of_testBit_eq
  intro i
  rw [Nat.testBit_or, setb_bit, setb_bit, ← hmk, Nat.testBit_two_pow]
  by_cases e : i = k
  · subst e; simp
  · have e2 : ¬ k = i := fun h => e h.symm
    simp [e, e2]

set_option maxRecDepth 100000 in
set_option maxHeartbeats 1000000 in
theorem restricted0 {w : World} {ds : List Nd} {a : Option Addr} {m cap : Nat} {root : Int} (hd : DAt w ds a) (hm : ds.length = m) (hl : m ≤ 9223372036854775807) {v : Int} {k0 : Nat} (hk : (15 : Int) - k0 = v) (hk16 : k0 < 16) (hc0 : chk ds root = 0) :
    Calls Try.prog 35 #[.agg #[.slice a m cap, .int .i64 root], .int .i64 v, .int .i64 0] w (DePost w 0 (tl fun x => fnT (tb ds 16 root) (setb k0 false x))) := by
  obtain ⟨x1, x2, x3, x4⟩ := two_new w (.cells #[.slice a m cap, .int .i64 root] 27) (.cells #[.slice none 0 0, .int .i64 0] 27) _ rfl
  have X1 := Lib.hid x1; clear x1
  have X2 := Lib.hid x2; clear x2
  have X3 := Lib.hid x3; clear x3
  have X4 := Lib.hid x4; clear x4
  have HD := Lib.hid hd; clear hd
  have C := Lib.hid (fault_any (cap := cap) (root := root) (HD.out.below X4.out) hm hl)
  have HM := Lib.hid hm; clear hm
  obtain ⟨mk, hmk⟩ : ∃ mk, 2 ^ k0 = mk := ⟨_, rfl⟩
  have hmk6 : mk ≤ 65536 := by rw [← hmk, ← two16]; exact pow_mono (by omega)
  have WM : Hid (IntKind.i64.wrap ((2 : Int) ^ ((15 : Int) - v).toNat) = (mk : Int) ∧ IntKind.i64.wrap ((1 : Int) * 2 ^ ((15 : Int) - v).toNat) = (mk : Int)) := by
    have e : ((15 : Int) - v).toNat = k0 := by omega
    rw [e]; exact one_wrap hmk hmk6
  have HMK := Lib.hid hmk; clear hmk
  obtain ⟨i0, hi0, hz0, hz1, hz2⟩ := info_parts info4
  have hv16 : v < 16 := by omega
  have hv0 : 0 ≤ v := by omega
  go_enter Try.func35, Try.ntmps35
  go_wp2_with fail
  generalize (w.alloc (.cells #[.slice a m cap, .int .i64 root] 27)).alloc (.cells #[.slice none 0 0, .int .i64 0] 27) = w1 at *
  refine C.out.mono ?_
  clear C
  rintro e w2 ⟨rfl, hb⟩
  have B2 := Lib.hid (Below.over X4.out X4.out.size hb)
  have b1 := Lib.hid ((hb.block _ (by rw [X3.out]; omega)).trans X1.out)
  have b2 := Lib.hid ((hb.block _ (by rw [X3.out]; omega)).trans X2.out)
  have hsz2 : w.heap.size + 2 ≤ w2.heap.size := by have := hb.size; rw [X3.out] at this; exact this
  clear hb X1 X2 X3 X4
  rw [hc0]
  obtain ⟨q1, q2, q3, q4, q5⟩ := chk_zero hc0
  have CK := Lib.hid hc0; clear hc0
  have OD := Lib.hid q2; clear q2 q4 q5
  have hm2 : m ≤ 2000 := by rw [HM.out] at q1; exact q1
  have RF := Lib.hid q3; clear q3 q1
  obtain ⟨y0, y1, _⟩ := cells2 b1.out
  obtain ⟨n, hn⟩ : ∃ n : Nat, n = 65536 := ⟨_, rfl⟩
  have CT := Lib.hid (table_any (cap := cap) (n := n) (HD.out.below B2.out) OD.out RF.out HM.out hm2 hn)
  have hn1 : n ≤ 65536 := by omega
  have HN := Lib.hid hn; clear hn
  go_wp2_with fail
  refine CT.out.mono ?_
  clear CT y0 y1
  rintro e w3 ⟨g, hg, hgl, rfl, t1, t2, bl3⟩
  have T1 := Lib.hid t1; clear t1 t2
  have B3 := Lib.hid bl3; clear bl3
  have wm1 := WM.out.1
  have wm2 := WM.out.2
  go_wp2_with (at_make; refine wpList_make_full _ rfl _ _ 33 rfl 0 4 i0 (.bool false) 1 Try.underlying33 hi0 hz0 hz1 .i64 .i64 (n : Int) (n : Int) n rfl rfl rfl rfl (by rw [hz2]; omega) (by unfold maxLen; omega) (Nat.zero_le _) ?_; intro w4 hown1 hg1; have OW := Lib.hid hown1; have GR := Lib.hid hg1; clear hown1 hg1)
  clear wm1 wm2
  go_loopw [12] (fun i wr => FT n w3.heap.size (fun x => fnT (tb ds 16 root) (setb k0 false x)) w4 i wr) (fun i _ => n - (intOf i).toNat)
  case atStart => exact ft_made OW.out
  case round =>
    obtain ⟨x, hx, rfl, h1, h2, h3, h4, h5⟩ := hrel
    by_cases hxn : x < n
    · have i1 : (x : Int) < (n : Int) := by omega
      have x6 : x < 65536 := by omega
      have AN := andNot_set HMK.out hk16 x6
      have sl : setb k0 false x < 65536 := by have := setb_lt (b := false) hk16 (show x < 2 ^ 16 by rw [two16]; exact x6); rw [two16] at this; exact this
      have OZ := or_zero_set sl
      obtain ⟨u, hu⟩ := h2 x hxn
      have fz := h3 x
      have ST := Lib.hid (ft_step (f := fun x => fnT (tb ds 16 root) (setb k0 false x)) (w2 := wr) hxn h1 h2 h3 h4 h5 (Below.refl _ _))
      have g34 : g < w4.heap.size := by have := GR.out.size; omega
      have c4 := (World.cell?_of_block (a := ⟨g, setb k0 false x, none⟩) ((h4.block g hgl).trans (GR.out.block g hgl (by simp)))).trans (T1.out (setb k0 false x) (by rw [HN.out]; exact sl))
      clear h1 h2 h3 h4
      have sn : ((setb k0 false x : Nat) : Int) < (n : Int) := by rw [HN.out]; omega
      obtain ⟨bb, hbb⟩ : ∃ b, fnT (tb ds 16 root) (setb k0 false x) = b := ⟨_, rfl⟩
      simp only [hbb] at c4 ST
      clear hbb
      generalize setb k0 false x = sx at *
      go_wp2_with fail
      go_roundw
      case rel => exact ST.out
      case measure => simp [intOf]; omega
    · obtain rfl : x = n := by omega
      have TD := Lib.hid (ft_done (f := fun x => fnT (tb ds 16 root) (setb k0 false x)) (wr := wr) fun j hj => h1 j (by rw [HN.out]; exact hj))
      have B34 : Hid (Below w3.heap.size w3 w4) := ⟨GR.out.os, GR.out.tape, GR.out.output, GR.out.size, fun k hk => GR.out.block k hk (by simp)⟩
      have BK := Lib.hid (Below.over B3.out B3.out.size (B34.out.trans h4))
      have CO := Lib.hid (ofTable_any (t := tl fun x => fnT (tb ds 16 root) (setb k0 false x)) (n := x) (cap := x) (by rw [tl_length]; exact HN.out.symm) (by rw [HN.out]) (Nat.le_refl _) h5 TD.out)
      have E := Lib.hid (de_zero (tl fun x => fnT (tb ds 16 root) (setb k0 false x)))
      clear h1 h2 h3 h4
      go_wp2_with fail
      refine CO.out.mono ?_
      clear CO
      rintro e w6 ⟨a6, cap6, rfl, dn6, hb6⟩
      have B6 := Lib.hid (Below.over B2.out B2.out.size (Below.over BK.out BK.out.size hb6))
      have DN6 := Lib.hid (dn6.le BK.out.size)
      obtain ⟨z0, z1, z2, z3⟩ := cells2 (((Below.over BK.out BK.out.size hb6).block (w.heap.size + 1) (by omega)).trans b2.out)
      clear dn6 hb6
      generalize outNodes (tl fun x => fnT (tb ds 16 root) (setb k0 false x)) = O at *
      generalize outRoot (tl fun x => fnT (tb ds 16 root) (setb k0 false x)) = rt at *
      generalize outErr (tl fun x => fnT (tb ds 16 root) (setb k0 false x)) = er at *
      have l6 : w.heap.size + 1 < w6.heap.size := lt_of_cell z0
      have FN := Lib.hid (out_fin (x := .slice a6 O.length cap6) (y := .int .i64 rt) DN6.out (show w.heap.size ≤ w.heap.size + 1 by omega) (by omega) B6.out)
      go_wp2_with fail
      refine bodyPost_ret (v := .tuple #[.agg #[.slice a6 O.length cap6, .int .i64 rt], .int .i64 er]) (by simp [results, Try.results35, go_sem, z0, z1]) rfl ⟨a6, cap6, ?_, ?_, ?_⟩
      · rw [E.out.1, E.out.2.1, E.out.2.2]
      · rw [E.out.1]; exact FN.out.1
      · exact FN.out.2

end Go.Proofs.Ythhogbligfmpdaa

/- The reference's Restricted, with bit 1. -/
namespace Go.Proofs.Ythhogbligfmpdaa
open Go.RowKit Bd

set_option maxRecDepth 100000 in
set_option maxHeartbeats 1000000 in
theorem restricted1 {w : World} {ds : List Nd} {a : Option Addr} {m cap : Nat} {root : Int} (hd : DAt w ds a) (hm : ds.length = m) (hl : m ≤ 9223372036854775807) {v : Int} {k0 : Nat} (hk : (15 : Int) - k0 = v) (hk16 : k0 < 16) (hc0 : chk ds root = 0) :
    Calls Try.prog 35 #[.agg #[.slice a m cap, .int .i64 root], .int .i64 v, .int .i64 1] w (DePost w 0 (tl fun x => fnT (tb ds 16 root) (setb k0 true x))) := by
  obtain ⟨x1, x2, x3, x4⟩ := two_new w (.cells #[.slice a m cap, .int .i64 root] 27) (.cells #[.slice none 0 0, .int .i64 0] 27) _ rfl
  have X1 := Lib.hid x1; clear x1
  have X2 := Lib.hid x2; clear x2
  have X3 := Lib.hid x3; clear x3
  have X4 := Lib.hid x4; clear x4
  have HD := Lib.hid hd; clear hd
  have C := Lib.hid (fault_any (cap := cap) (root := root) (HD.out.below X4.out) hm hl)
  have HM := Lib.hid hm; clear hm
  obtain ⟨mk, hmk⟩ : ∃ mk, 2 ^ k0 = mk := ⟨_, rfl⟩
  have hmk6 : mk ≤ 65536 := by rw [← hmk, ← two16]; exact pow_mono (by omega)
  have WM : Hid (IntKind.i64.wrap ((2 : Int) ^ ((15 : Int) - v).toNat) = (mk : Int) ∧ IntKind.i64.wrap ((1 : Int) * 2 ^ ((15 : Int) - v).toNat) = (mk : Int)) := by
    have e : ((15 : Int) - v).toNat = k0 := by omega
    rw [e]; exact one_wrap hmk hmk6
  have HMK := Lib.hid hmk; clear hmk
  obtain ⟨i0, hi0, hz0, hz1, hz2⟩ := info_parts info4
  have hv16 : v < 16 := by omega
  have hv0 : 0 ≤ v := by omega
  go_enter Try.func35, Try.ntmps35
  go_wp2_with fail
  generalize (w.alloc (.cells #[.slice a m cap, .int .i64 root] 27)).alloc (.cells #[.slice none 0 0, .int .i64 0] 27) = w1 at *
  refine C.out.mono ?_
  clear C
  rintro e w2 ⟨rfl, hb⟩
  have B2 := Lib.hid (Below.over X4.out X4.out.size hb)
  have b1 := Lib.hid ((hb.block _ (by rw [X3.out]; omega)).trans X1.out)
  have b2 := Lib.hid ((hb.block _ (by rw [X3.out]; omega)).trans X2.out)
  have hsz2 : w.heap.size + 2 ≤ w2.heap.size := by have := hb.size; rw [X3.out] at this; exact this
  clear hb X1 X2 X3 X4
  rw [hc0]
  obtain ⟨q1, q2, q3, q4, q5⟩ := chk_zero hc0
  have CK := Lib.hid hc0; clear hc0
  have OD := Lib.hid q2; clear q2 q4 q5
  have hm2 : m ≤ 2000 := by rw [HM.out] at q1; exact q1
  have RF := Lib.hid q3; clear q3 q1
  obtain ⟨y0, y1, _⟩ := cells2 b1.out
  obtain ⟨n, hn⟩ : ∃ n : Nat, n = 65536 := ⟨_, rfl⟩
  have CT := Lib.hid (table_any (cap := cap) (n := n) (HD.out.below B2.out) OD.out RF.out HM.out hm2 hn)
  have hn1 : n ≤ 65536 := by omega
  have HN := Lib.hid hn; clear hn
  go_wp2_with fail
  refine CT.out.mono ?_
  clear CT y0 y1
  rintro e w3 ⟨g, hg, hgl, rfl, t1, t2, bl3⟩
  have T1 := Lib.hid t1; clear t1 t2
  have B3 := Lib.hid bl3; clear bl3
  have wm1 := WM.out.1
  have wm2 := WM.out.2
  go_wp2_with (at_make; refine wpList_make_full _ rfl _ _ 33 rfl 0 4 i0 (.bool false) 1 Try.underlying33 hi0 hz0 hz1 .i64 .i64 (n : Int) (n : Int) n rfl rfl rfl rfl (by rw [hz2]; omega) (by unfold maxLen; omega) (Nat.zero_le _) ?_; intro w4 hown1 hg1; have OW := Lib.hid hown1; have GR := Lib.hid hg1; clear hown1 hg1)
  clear wm1 wm2
  go_loopw [12] (fun i wr => FT n w3.heap.size (fun x => fnT (tb ds 16 root) (setb k0 true x)) w4 i wr) (fun i _ => n - (intOf i).toNat)
  case atStart => exact ft_made OW.out
  case round =>
    obtain ⟨x, hx, rfl, h1, h2, h3, h4, h5⟩ := hrel
    by_cases hxn : x < n
    · have i1 : (x : Int) < (n : Int) := by omega
      have x6 : x < 65536 := by omega
      have AN0 := andNot_set HMK.out hk16 x6
      have OZ0 := or_set HMK.out hk16 x6
      rw [← AN0] at OZ0
      clear AN0
      have sl : setb k0 true x < 65536 := by have := setb_lt (b := true) hk16 (show x < 2 ^ 16 by rw [two16]; exact x6); rw [two16] at this; exact this
      obtain ⟨u, hu⟩ := h2 x hxn
      have fz := h3 x
      have ST := Lib.hid (ft_step (f := fun x => fnT (tb ds 16 root) (setb k0 true x)) (w2 := wr) hxn h1 h2 h3 h4 h5 (Below.refl _ _))
      have g34 : g < w4.heap.size := by have := GR.out.size; omega
      have c4 := (World.cell?_of_block (a := ⟨g, setb k0 true x, none⟩) ((h4.block g hgl).trans (GR.out.block g hgl (by simp)))).trans (T1.out (setb k0 true x) (by rw [HN.out]; exact sl))
      clear h1 h2 h3 h4
      have sn : ((setb k0 true x : Nat) : Int) < (n : Int) := by rw [HN.out]; omega
      obtain ⟨bb, hbb⟩ : ∃ b, fnT (tb ds 16 root) (setb k0 true x) = b := ⟨_, rfl⟩
      simp only [hbb] at c4 ST
      clear hbb
      generalize setb k0 true x = sx at *
      go_wp2_with fail
      go_roundw
      case rel => exact ST.out
      case measure => simp [intOf]; omega
    · obtain rfl : x = n := by omega
      have TD := Lib.hid (ft_done (f := fun x => fnT (tb ds 16 root) (setb k0 true x)) (wr := wr) fun j hj => h1 j (by rw [HN.out]; exact hj))
      have B34 : Hid (Below w3.heap.size w3 w4) := ⟨GR.out.os, GR.out.tape, GR.out.output, GR.out.size, fun k hk => GR.out.block k hk (by simp)⟩
      have BK := Lib.hid (Below.over B3.out B3.out.size (B34.out.trans h4))
      have CO := Lib.hid (ofTable_any (t := tl fun x => fnT (tb ds 16 root) (setb k0 true x)) (n := x) (cap := x) (by rw [tl_length]; exact HN.out.symm) (by rw [HN.out]) (Nat.le_refl _) h5 TD.out)
      have E := Lib.hid (de_zero (tl fun x => fnT (tb ds 16 root) (setb k0 true x)))
      clear h1 h2 h3 h4
      go_wp2_with fail
      refine CO.out.mono ?_
      clear CO
      rintro e w6 ⟨a6, cap6, rfl, dn6, hb6⟩
      have B6 := Lib.hid (Below.over B2.out B2.out.size (Below.over BK.out BK.out.size hb6))
      have DN6 := Lib.hid (dn6.le BK.out.size)
      obtain ⟨z0, z1, z2, z3⟩ := cells2 (((Below.over BK.out BK.out.size hb6).block (w.heap.size + 1) (by omega)).trans b2.out)
      clear dn6 hb6
      generalize outNodes (tl fun x => fnT (tb ds 16 root) (setb k0 true x)) = O at *
      generalize outRoot (tl fun x => fnT (tb ds 16 root) (setb k0 true x)) = rt at *
      generalize outErr (tl fun x => fnT (tb ds 16 root) (setb k0 true x)) = er at *
      have l6 : w.heap.size + 1 < w6.heap.size := lt_of_cell z0
      have FN := Lib.hid (out_fin (x := .slice a6 O.length cap6) (y := .int .i64 rt) DN6.out (show w.heap.size ≤ w.heap.size + 1 by omega) (by omega) B6.out)
      go_wp2_with fail
      refine bodyPost_ret (v := .tuple #[.agg #[.slice a6 O.length cap6, .int .i64 rt], .int .i64 er]) (by simp [results, Try.results35, go_sem, z0, z1]) rfl ⟨a6, cap6, ?_, ?_, ?_⟩
      · rw [E.out.1, E.out.2.1, E.out.2.2]
      · rw [E.out.1]; exact FN.out.1
      · exact FN.out.2

end Go.Proofs.Ythhogbligfmpdaa

/- The reference's Restricted: the faults. -/
namespace Go.Proofs.Ythhogbligfmpdaa
open Go.RowKit Bd

set_option maxRecDepth 100000 in
set_option maxHeartbeats 1000000 in
theorem restricted_bad {w : World} {ds : List Nd} {a : Option Addr} {n cap : Nat} {root : Int} (hd : DAt w ds a) (hn : ds.length = n) (hl : n ≤ 9223372036854775807) {v bit : Int} {T : List Bool} (hc0 : chk ds root ≠ 0) :
    Calls Try.prog 35 #[.agg #[.slice a n cap, .int .i64 root], .int .i64 v, .int .i64 bit] w (DePost w (chk ds root) T) := by
  obtain ⟨x1, x2, x3, x4⟩ := two_new w (.cells #[.slice a n cap, .int .i64 root] 27) (.cells #[.slice none 0 0, .int .i64 0] 27) _ rfl
  have X1 := Lib.hid x1; clear x1
  have X2 := Lib.hid x2; clear x2
  have X3 := Lib.hid x3; clear x3
  have X4 := Lib.hid x4; clear x4
  have HD := Lib.hid hd; clear hd
  have C := Lib.hid (fault_any (cap := cap) (root := root) (HD.out.below X4.out) hn hl)
  have HN := Lib.hid hn; clear hn
  go_enter Try.func35, Try.ntmps35
  go_wp2_with fail
  generalize (w.alloc (.cells #[.slice a n cap, .int .i64 root] 27)).alloc (.cells #[.slice none 0 0, .int .i64 0] 27) = w1 at *
  refine C.out.mono ?_
  clear C
  rintro e w2 ⟨rfl, hb⟩
  have B2 := Lib.hid (Below.over X4.out X4.out.size hb)
  have b1 := Lib.hid ((hb.block _ (by rw [X3.out]; omega)).trans X1.out)
  have b2 := Lib.hid ((hb.block _ (by rw [X3.out]; omega)).trans X2.out)
  have hsz2 : w.heap.size + 2 ≤ w2.heap.size := by have := hb.size; rw [X3.out] at this; exact this
  clear hb X1 X2 X3 X4
  obtain ⟨ck, hck⟩ : ∃ ck, chk ds root = ck := ⟨_, rfl⟩
  rw [hck]
  have CK := Lib.hid hck; clear hck
  have hc : ck ≠ 0 := by rw [← CK.out]; exact hc0
  clear hc0
  have hcb : (ck != 0) = true := by simpa using hc
  have E := Lib.hid (de_no CK.out hc T)
  have HC := Lib.hid hc; clear hc
  obtain ⟨z0, z1, z2, z3⟩ := cells2 b2.out
  have l6 : w.heap.size + 1 < w2.heap.size := by omega
  have FN := Lib.hid (out_fin (x := .slice none 0 0) (y := .int .i64 0) (dNew_nil (w.heap.size + 2) w2 none) (show w.heap.size ≤ w.heap.size + 1 by omega) (by omega) B2.out)
  go_wp2_with fail
  refine bodyPost_ret (v := .tuple #[.agg #[.slice none 0 0, .int .i64 0], .int .i64 ck]) (by simp [results, Try.results35, go_sem, z0, z1]) rfl ⟨none, 0, ?_, ?_, ?_⟩
  · rw [E.out.1, E.out.2.1, E.out.2.2]; rfl
  · rw [E.out.1]; exact dNew_nil _ _ _
  · exact FN.out.2

set_option maxRecDepth 100000 in
set_option maxHeartbeats 1000000 in
theorem restricted_arg {w : World} {ds : List Nd} {a : Option Addr} {n cap : Nat} {root : Int} (hd : DAt w ds a) (hn : ds.length = n) (hl : n ≤ 9223372036854775807) {v bit : Int} {T : List Bool} (hc0 : chk ds root = 0) (harg : v < 0 ∨ 16 ≤ v ∨ (bit ≠ 0 ∧ bit ≠ 1)) :
    Calls Try.prog 35 #[.agg #[.slice a n cap, .int .i64 root], .int .i64 v, .int .i64 bit] w (DePost w 1 T) := by
  obtain ⟨x1, x2, x3, x4⟩ := two_new w (.cells #[.slice a n cap, .int .i64 root] 27) (.cells #[.slice none 0 0, .int .i64 0] 27) _ rfl
  have X1 := Lib.hid x1; clear x1
  have X2 := Lib.hid x2; clear x2
  have X3 := Lib.hid x3; clear x3
  have X4 := Lib.hid x4; clear x4
  have HD := Lib.hid hd; clear hd
  have C := Lib.hid (fault_any (cap := cap) (root := root) (HD.out.below X4.out) hn hl)
  have HN := Lib.hid hn; clear hn
  go_enter Try.func35, Try.ntmps35
  go_wp2_with fail
  generalize (w.alloc (.cells #[.slice a n cap, .int .i64 root] 27)).alloc (.cells #[.slice none 0 0, .int .i64 0] 27) = w1 at *
  refine C.out.mono ?_
  clear C
  rintro e w2 ⟨rfl, hb⟩
  have B2 := Lib.hid (Below.over X4.out X4.out.size hb)
  have b1 := Lib.hid ((hb.block _ (by rw [X3.out]; omega)).trans X1.out)
  have b2 := Lib.hid ((hb.block _ (by rw [X3.out]; omega)).trans X2.out)
  have hsz2 : w.heap.size + 2 ≤ w2.heap.size := by have := hb.size; rw [X3.out] at this; exact this
  clear hb X1 X2 X3 X4
  obtain ⟨ck, hck⟩ : ∃ ck, chk ds root = ck := ⟨_, rfl⟩
  rw [hck]
  have CK := Lib.hid hck; clear hck
  have hc : ck = 0 := by rw [← CK.out]; exact hc0
  clear hc0
  subst hc
  have E := Lib.hid (de_no (e := 1) rfl (by decide) T)
  obtain ⟨z0, z1, z2, z3⟩ := cells2 b2.out
  have l6 : w.heap.size + 1 < w2.heap.size := by omega
  have FN := Lib.hid (out_fin (x := .slice none 0 0) (y := .int .i64 0) (dNew_nil (w.heap.size + 2) w2 none) (show w.heap.size ≤ w.heap.size + 1 by omega) (by omega) B2.out)
  have DD : v < 0 ∨ (¬ v < 0 ∧ 16 ≤ v) ∨ (¬ v < 0 ∧ ¬ 16 ≤ v ∧ (bit != 0) = true ∧ (bit != 1) = true) := by
    by_cases h : v < 0
    · exact Or.inl h
    · by_cases h2 : 16 ≤ v
      · exact Or.inr (Or.inl ⟨h, h2⟩)
      · refine Or.inr (Or.inr ⟨h, h2, ?_, ?_⟩) <;> (rw [bne_iff_ne]; omega)
  clear harg
  rcases DD with dv | ⟨dv, dw⟩ | ⟨dv, dw, b0, b1'⟩
  all_goals
    go_wp2_with fail
    refine bodyPost_ret (v := .tuple #[.agg #[.slice none 0 0, .int .i64 0], .int .i64 1]) (by simp [results, Try.results35, go_sem, z0, z1]) rfl ⟨none, 0, ?_, ?_, ?_⟩
    · rw [E.out.1, E.out.2.1, E.out.2.2]; rfl
    · rw [E.out.1]; exact dNew_nil _ _ _
    · exact FN.out.2

end Go.Proofs.Ythhogbligfmpdaa
