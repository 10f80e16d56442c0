/- Restrict. -/
import Derived.Test.YthhogbligfmpdaaYc
import Derived.Test.YthhogbligfmpdaaXh
set_option linter.unusedVariables false
set_option linter.unusedSimpArgs false
namespace Go.Proofs.Ythhogbligfmpdaa
open Go.RowKit Bd

theorem isVar_any (v : Int) (w : World) : Calls Try.prog 65 #[.int .i64 v] w fun e w' => e = .returned (.bool (decide (0 ≤ v ∧ v < 16))) ∧ w' = w := by
  by_cases h0 : 0 ≤ v
  · by_cases h1 : v < 16
    · have e : decide (0 ≤ v ∧ v < 16) = true := by simp [h0, h1]
      rw [e]
      go_enter Try.func65, Try.ntmps65
      go_wp2_with fail
      go_ret
      exact ⟨rfl, rfl⟩
    · have e : decide (0 ≤ v ∧ v < 16) = false := by simp [h0, h1]
      rw [e]
      have h2 : 16 ≤ v := by omega
      go_enter Try.func65, Try.ntmps65
      go_wp2_with fail
      go_ret
      exact ⟨rfl, rfl⟩
  · have e : decide (0 ≤ v ∧ v < 16) = false := by simp [h0]
    rw [e]
    have h2 : v < 0 := by omega
    go_enter Try.func65, Try.ntmps65
    go_wp2_with fail
    go_ret
    exact ⟨rfl, rfl⟩

theorem fix_pow {ns : List Nd} (o : Ord ns) {r : Int} (hr : Ref ns r) : 2 ^ (16 - top ns r).toNat ≤ 65536 := by
  have h1 := pow_mono (lev_le o hr)
  have h2 : (2 : Nat) ^ 16 = 65536 := by decide
  rw [h2] at h1
  exact h1

theorem fx_fn {ns : List Nd} {r v : Int} {k : Nat} {b : Bool} {f : Nat → Bool} (hk : (15 : Int) - k = v) (hk16 : k < 16) (h : Tab ns r f) : fx v b 16 (tb ns 16 r) = tl fun x => f (setb k b x) := by
  have hl : (tb ns 16 r).length = 65536 := by rw [tb_length]
  rw [fx_tl hk b hl hk16]
  unfold tl
  apply List.map_congr_left
  intro x hx
  have hx2 : x < 2 ^ 16 := by rw [List.mem_range] at hx; exact hx
  have := setb_lt (b := b) hk16 hx2
  have h2 : tb ns 16 r = tl f := h
  have h3 : setb k b x < 65536 := by rw [← two16]; exact this
  rw [h2, List.getD_eq_getElem?_getD, tl_get _ h3]
  rfl

set_option maxRecDepth 100000 in
set_option maxHeartbeats 1000000 in
theorem restrict0 {w : World} {ds : List Nd} {a : Option Addr} {n cap : Nat} {root : Int} (hd : DAt w ds a) (hn : ds.length = n) (hl : n ≤ 9223372036854775807) {v : Int} {k : Nat} (hk : (15 : Int) - k = v) (hk16 : k < 16) :
    Calls Try.prog 34 #[.agg #[.slice a n cap, .int .i64 root], .int .i64 v, .int .i64 0] w (DePost w (chk ds root) (tl fun x => fnT (tb ds 16 root) (setb k false x))) := by
  obtain ⟨x1, x2, x3, x4⟩ := two_new w (.cells #[.slice a n cap, .int .i64 root] 27) (.cells #[.slice none 0 0, .int .i64 0] 27) _ rfl
  have X1 := Lib.hid x1; clear x1
  have X2 := Lib.hid x2; clear x2
  have X3 := Lib.hid x3; clear x3
  have X4 := Lib.hid x4; clear x4
  have HD := Lib.hid hd; clear hd
  have C := Lib.hid (check_any (cap := cap) (root := root) (HD.out.below X4.out) hn hl)
  have HN := Lib.hid hn; clear hn
  have hv16 : v < 16 := by omega
  have hv0 : 0 ≤ v := by omega
  have IV := Lib.hid (fun W => isVar_any v W)
  go_enter Try.func34, Try.ntmps34
  go_wp2_with fail
  generalize (w.alloc (.cells #[.slice a n cap, .int .i64 root] 27)).alloc (.cells #[.slice none 0 0, .int .i64 0] 27) = w1 at *
  refine C.out.mono ?_
  clear C
  rintro e w2 ⟨rfl, hb⟩
  have B2 := Lib.hid (Below.over X4.out X4.out.size hb)
  have b1 := Lib.hid ((hb.block _ (by rw [X3.out]; omega)).trans X1.out)
  have b2 := Lib.hid ((hb.block _ (by rw [X3.out]; omega)).trans X2.out)
  have hsz2 : w.heap.size + 2 ≤ w2.heap.size := by have := hb.size; rw [X3.out] at this; exact this
  clear hb X1 X2 X3 X4
  obtain ⟨ck, hck⟩ : ∃ ck, chk ds root = ck := ⟨_, rfl⟩
  rw [hck]
  have CK := Lib.hid hck; clear hck
  by_cases hc : ck = 0
  · subst hc
    obtain ⟨q1, q2, q3, q4, q5⟩ := chk_zero CK.out
    have OD := Lib.hid q2; clear q2 q4 q5
    have hn2 : n ≤ 2000 := by rw [HN.out] at q1; exact q1
    have RF := Lib.hid q3; clear q3 q1
    obtain ⟨y0, y1, _⟩ := cells2 b1.out
    go_wp2_with fail
    refine (IV.out w2).mono ?_
    rintro e wx ⟨rfl, hwx⟩
    replace hwx := hwx.symm
    subst hwx
    have dv : decide (0 ≤ v ∧ v < 16) = true := by simp [hv0, hv16]
    rw [dv]
    go_wp2_with fail
    refine (new_any w2).mono ?_
    rintro e w3 ⟨M, rfl, st3, bl3, ft3⟩
    have ST3 := Lib.hid st3; clear st3
    have M3 : Hid (Mid w2 w3 M) := ⟨bl3, ft3⟩
    clear bl3 ft3 y0 y1
    obtain ⟨y0, y1, _⟩ := cells2 ((M3.out.bel.block _ (by omega)).trans b1.out)
    go_wp2_with fail
    refine (add_any (cap := cap) ST3.out ((HD.out.below B2.out).below M3.out.bel) ((HD.out.below B2.out).far M3.out (Nat.le_refl _)) OD.out RF.out HN.out hn2 (by simp)).mono ?_
    rintro e w4 ⟨ns4, r4, dn4, v4, rfl, ext4, rf4, tb4, st4, sp4⟩
    have M4 := Lib.hid (M3.out.step sp4)
    have L4 : ns4.length ≤ 2000 := by
      obtain ⟨ms, e1, e2⟩ := ext4
      rw [e1]; simp; omega
    have ST4 := Lib.hid st4
    have TB4 := Lib.hid tb4
    clear ext4 sp4 st4 tb4 y0 y1
    go_wp2_with fail
    refine (fixed_any (b := false) ST4.out.mgr ST4.out.good rf4 hv16 rfl (by have := fix_pow ST4.out.good.ord rf4; omega)).mono ?_
    rintro e w5 ⟨ns5, r5, v5, rfl, fr5, mg5, sp5⟩
    have M5 := Lib.hid (M4.out.step sp5)
    have L5 : ns5.length ≤ 1000000000000 := by
      obtain ⟨ms, e1, e2⟩ := fr5.ext
      have := fix_pow ST4.out.good.ord rf4
      rw [e1]; simp; omega
    have TB5 : Hid (tb ns5 16 r5 = tl fun x => fnT (tb ds 16 root) (setb k false x)) := by
      show _ = _
      rw [fr5.tab 16 (by have := (ST4.out.good.ord.top_lt rf4).1; omega)]
      exact fx_fn hk hk16 TB4.out
    have MG5 := Lib.hid mg5
    have GD5 := Lib.hid fr5.good
    have rf5 := fr5.ref
    clear fr5 mg5 sp5
    go_wp2_with fail
    refine (result_any MG5.out GD5.out L5 rf5 TB5.out).mono ?_
    rintro e w6 ⟨a6, cap6, rfl, dn6, hb6⟩
    have B6 := Lib.hid (Below.over B2.out B2.out.size (Below.over M5.out.bel M5.out.bel.size hb6))
    have DN6 := Lib.hid (dn6.le M5.out.bel.size)
    obtain ⟨z0, z1, z2, z3⟩ := cells2 (((Below.over M5.out.bel M5.out.bel.size hb6).block (w.heap.size + 1) (by omega)).trans b2.out)
    clear dn6 hb6
    have E := Lib.hid (de_ok CK.out (tl fun x => fnT (tb ds 16 root) (setb k false x)))
    generalize outNodes (tl fun x => fnT (tb ds 16 root) (setb k false x)) = O at *
    generalize outRoot (tl fun x => fnT (tb ds 16 root) (setb k false x)) = rt at *
    generalize outErr (tl fun x => fnT (tb ds 16 root) (setb k false x)) = er at *
    have l6 : w.heap.size + 1 < w6.heap.size := lt_of_cell z0
    have FN := Lib.hid (out_fin (x := .slice a6 O.length cap6) (y := .int .i64 rt) DN6.out (show w.heap.size ≤ w.heap.size + 1 by omega) (by omega) B6.out)
    go_wp2_with fail
    refine bodyPost_ret (v := .tuple #[.agg #[.slice a6 O.length cap6, .int .i64 rt], .int .i64 er]) (by simp [results, Try.results34, go_sem, z0, z1]) rfl ⟨a6, cap6, ?_, ?_, ?_⟩
    · rw [E.out.1, E.out.2.1, E.out.2.2]
    · rw [E.out.1]; exact FN.out.1
    · exact FN.out.2
  · have hcb : (ck != 0) = true := by simpa using hc
    have E := Lib.hid (de_no CK.out hc (tl fun x => fnT (tb ds 16 root) (setb k false x)))
    have HC := Lib.hid hc; clear hc
    obtain ⟨z0, z1, z2, z3⟩ := cells2 b2.out
    have l6 : w.heap.size + 1 < w2.heap.size := by omega
    have FN := Lib.hid (out_fin (x := .slice none 0 0) (y := .int .i64 0) (dNew_nil (w.heap.size + 2) w2 none) (show w.heap.size ≤ w.heap.size + 1 by omega) (by omega) B2.out)
    go_wp2_with fail
    refine bodyPost_ret (v := .tuple #[.agg #[.slice none 0 0, .int .i64 0], .int .i64 ck]) (by simp [results, Try.results34, go_sem, z0, z1]) rfl ⟨none, 0, ?_, ?_, ?_⟩
    · rw [E.out.1, E.out.2.1, E.out.2.2]; rfl
    · rw [E.out.1]; exact dNew_nil _ _ _
    · exact FN.out.2

set_option maxRecDepth 100000 in
set_option maxHeartbeats 1000000 in
theorem restrict1 {w : World} {ds : List Nd} {a : Option Addr} {n cap : Nat} {root : Int} (hd : DAt w ds a) (hn : ds.length = n) (hl : n ≤ 9223372036854775807) {v : Int} {k : Nat} (hk : (15 : Int) - k = v) (hk16 : k < 16) :
    Calls Try.prog 34 #[.agg #[.slice a n cap, .int .i64 root], .int .i64 v, .int .i64 1] w (DePost w (chk ds root) (tl fun x => fnT (tb ds 16 root) (setb k true x))) := by
  obtain ⟨x1, x2, x3, x4⟩ := two_new w (.cells #[.slice a n cap, .int .i64 root] 27) (.cells #[.slice none 0 0, .int .i64 0] 27) _ rfl
  have X1 := Lib.hid x1; clear x1
  have X2 := Lib.hid x2; clear x2
  have X3 := Lib.hid x3; clear x3
  have X4 := Lib.hid x4; clear x4
  have HD := Lib.hid hd; clear hd
  have C := Lib.hid (check_any (cap := cap) (root := root) (HD.out.below X4.out) hn hl)
  have HN := Lib.hid hn; clear hn
  have hv16 : v < 16 := by omega
  have hv0 : 0 ≤ v := by omega
  have IV := Lib.hid (fun W => isVar_any v W)
  go_enter Try.func34, Try.ntmps34
  go_wp2_with fail
  generalize (w.alloc (.cells #[.slice a n cap, .int .i64 root] 27)).alloc (.cells #[.slice none 0 0, .int .i64 0] 27) = w1 at *
  refine C.out.mono ?_
  clear C
  rintro e w2 ⟨rfl, hb⟩
  have B2 := Lib.hid (Below.over X4.out X4.out.size hb)
  have b1 := Lib.hid ((hb.block _ (by rw [X3.out]; omega)).trans X1.out)
  have b2 := Lib.hid ((hb.block _ (by rw [X3.out]; omega)).trans X2.out)
  have hsz2 : w.heap.size + 2 ≤ w2.heap.size := by have := hb.size; rw [X3.out] at this; exact this
  clear hb X1 X2 X3 X4
  obtain ⟨ck, hck⟩ : ∃ ck, chk ds root = ck := ⟨_, rfl⟩
  rw [hck]
  have CK := Lib.hid hck; clear hck
  by_cases hc : ck = 0
  · subst hc
    obtain ⟨q1, q2, q3, q4, q5⟩ := chk_zero CK.out
    have OD := Lib.hid q2; clear q2 q4 q5
    have hn2 : n ≤ 2000 := by rw [HN.out] at q1; exact q1
    have RF := Lib.hid q3; clear q3 q1
    obtain ⟨y0, y1, _⟩ := cells2 b1.out
    go_wp2_with fail
    refine (IV.out w2).mono ?_
    rintro e wx ⟨rfl, hwx⟩
    replace hwx := hwx.symm
    subst hwx
    have dv : decide (0 ≤ v ∧ v < 16) = true := by simp [hv0, hv16]
    rw [dv]
    go_wp2_with fail
    refine (new_any w2).mono ?_
    rintro e w3 ⟨M, rfl, st3, bl3, ft3⟩
    have ST3 := Lib.hid st3; clear st3
    have M3 : Hid (Mid w2 w3 M) := ⟨bl3, ft3⟩
    clear bl3 ft3 y0 y1
    obtain ⟨y0, y1, _⟩ := cells2 ((M3.out.bel.block _ (by omega)).trans b1.out)
    go_wp2_with fail
    refine (add_any (cap := cap) ST3.out ((HD.out.below B2.out).below M3.out.bel) ((HD.out.below B2.out).far M3.out (Nat.le_refl _)) OD.out RF.out HN.out hn2 (by simp)).mono ?_
    rintro e w4 ⟨ns4, r4, dn4, v4, rfl, ext4, rf4, tb4, st4, sp4⟩
    have M4 := Lib.hid (M3.out.step sp4)
    have L4 : ns4.length ≤ 2000 := by
      obtain ⟨ms, e1, e2⟩ := ext4
      rw [e1]; simp; omega
    have ST4 := Lib.hid st4
    have TB4 := Lib.hid tb4
    clear ext4 sp4 st4 tb4 y0 y1
    go_wp2_with fail
    refine (fixed_any (b := true) ST4.out.mgr ST4.out.good rf4 hv16 rfl (by have := fix_pow ST4.out.good.ord rf4; omega)).mono ?_
    rintro e w5 ⟨ns5, r5, v5, rfl, fr5, mg5, sp5⟩
    have M5 := Lib.hid (M4.out.step sp5)
    have L5 : ns5.length ≤ 1000000000000 := by
      obtain ⟨ms, e1, e2⟩ := fr5.ext
      have := fix_pow ST4.out.good.ord rf4
      rw [e1]; simp; omega
    have TB5 : Hid (tb ns5 16 r5 = tl fun x => fnT (tb ds 16 root) (setb k true x)) := by
      show _ = _
      rw [fr5.tab 16 (by have := (ST4.out.good.ord.top_lt rf4).1; omega)]
      exact fx_fn hk hk16 TB4.out
    have MG5 := Lib.hid mg5
    have GD5 := Lib.hid fr5.good
    have rf5 := fr5.ref
    clear fr5 mg5 sp5
    go_wp2_with fail
    refine (result_any MG5.out GD5.out L5 rf5 TB5.out).mono ?_
    rintro e w6 ⟨a6, cap6, rfl, dn6, hb6⟩
    have B6 := Lib.hid (Below.over B2.out B2.out.size (Below.over M5.out.bel M5.out.bel.size hb6))
    have DN6 := Lib.hid (dn6.le M5.out.bel.size)
    obtain ⟨z0, z1, z2, z3⟩ := cells2 (((Below.over M5.out.bel M5.out.bel.size hb6).block (w.heap.size + 1) (by omega)).trans b2.out)
    clear dn6 hb6
    have E := Lib.hid (de_ok CK.out (tl fun x => fnT (tb ds 16 root) (setb k true x)))
    generalize outNodes (tl fun x => fnT (tb ds 16 root) (setb k true x)) = O at *
    generalize outRoot (tl fun x => fnT (tb ds 16 root) (setb k true x)) = rt at *
    generalize outErr (tl fun x => fnT (tb ds 16 root) (setb k true x)) = er at *
    have l6 : w.heap.size + 1 < w6.heap.size := lt_of_cell z0
    have FN := Lib.hid (out_fin (x := .slice a6 O.length cap6) (y := .int .i64 rt) DN6.out (show w.heap.size ≤ w.heap.size + 1 by omega) (by omega) B6.out)
    go_wp2_with fail
    refine bodyPost_ret (v := .tuple #[.agg #[.slice a6 O.length cap6, .int .i64 rt], .int .i64 er]) (by simp [results, Try.results34, go_sem, z0, z1]) rfl ⟨a6, cap6, ?_, ?_, ?_⟩
    · rw [E.out.1, E.out.2.1, E.out.2.2]
    · rw [E.out.1]; exact FN.out.1
    · exact FN.out.2
  · have hcb : (ck != 0) = true := by simpa using hc
    have E := Lib.hid (de_no CK.out hc (tl fun x => fnT (tb ds 16 root) (setb k true x)))
    have HC := Lib.hid hc; clear hc
    obtain ⟨z0, z1, z2, z3⟩ := cells2 b2.out
    have l6 : w.heap.size + 1 < w2.heap.size := by omega
    have FN := Lib.hid (out_fin (x := .slice none 0 0) (y := .int .i64 0) (dNew_nil (w.heap.size + 2) w2 none) (show w.heap.size ≤ w.heap.size + 1 by omega) (by omega) B2.out)
    go_wp2_with fail
    refine bodyPost_ret (v := .tuple #[.agg #[.slice none 0 0, .int .i64 0], .int .i64 ck]) (by simp [results, Try.results34, go_sem, z0, z1]) rfl ⟨none, 0, ?_, ?_, ?_⟩
    · rw [E.out.1, E.out.2.1, E.out.2.2]; rfl
    · rw [E.out.1]; exact dNew_nil _ _ _
    · exact FN.out.2

end Go.Proofs.Ythhogbligfmpdaa

/- Restrict: the faults. -/
namespace Go.Proofs.Ythhogbligfmpdaa
open Go.RowKit Bd

set_option maxRecDepth 100000 in
set_option maxHeartbeats 1000000 in
theorem restrict_bad {w : World} {ds : List Nd} {a : Option Addr} {n cap : Nat} {root : Int} (hd : DAt w ds a) (hn : ds.length = n) (hl : n ≤ 9223372036854775807) {v bit : Int} {T : List Bool} (hc0 : chk ds root ≠ 0) :
    Calls Try.prog 34 #[.agg #[.slice a n cap, .int .i64 root], .int .i64 v, .int .i64 bit] w (DePost w (chk ds root) T) := by
  obtain ⟨x1, x2, x3, x4⟩ := two_new w (.cells #[.slice a n cap, .int .i64 root] 27) (.cells #[.slice none 0 0, .int .i64 0] 27) _ rfl
  have X1 := Lib.hid x1; clear x1
  have X2 := Lib.hid x2; clear x2
  have X3 := Lib.hid x3; clear x3
  have X4 := Lib.hid x4; clear x4
  have HD := Lib.hid hd; clear hd
  have C := Lib.hid (check_any (cap := cap) (root := root) (HD.out.below X4.out) hn hl)
  have HN := Lib.hid hn; clear hn
  have IV := Lib.hid (fun W => isVar_any v W)
  go_enter Try.func34, Try.ntmps34
  go_wp2_with fail
  generalize (w.alloc (.cells #[.slice a n cap, .int .i64 root] 27)).alloc (.cells #[.slice none 0 0, .int .i64 0] 27) = w1 at *
  refine C.out.mono ?_
  clear C
  rintro e w2 ⟨rfl, hb⟩
  have B2 := Lib.hid (Below.over X4.out X4.out.size hb)
  have b1 := Lib.hid ((hb.block _ (by rw [X3.out]; omega)).trans X1.out)
  have b2 := Lib.hid ((hb.block _ (by rw [X3.out]; omega)).trans X2.out)
  have hsz2 : w.heap.size + 2 ≤ w2.heap.size := by have := hb.size; rw [X3.out] at this; exact this
  clear hb X1 X2 X3 X4
  obtain ⟨ck, hck⟩ : ∃ ck, chk ds root = ck := ⟨_, rfl⟩
  rw [hck]
  have CK := Lib.hid hck; clear hck
  have hc : ck ≠ 0 := by rw [← CK.out]; exact hc0
  clear hc0
  have hcb : (ck != 0) = true := by simpa using hc
  have E := Lib.hid (de_no CK.out hc T)
  have HC := Lib.hid hc; clear hc
  obtain ⟨z0, z1, z2, z3⟩ := cells2 b2.out
  have l6 : w.heap.size + 1 < w2.heap.size := by omega
  have FN := Lib.hid (out_fin (x := .slice none 0 0) (y := .int .i64 0) (dNew_nil (w.heap.size + 2) w2 none) (show w.heap.size ≤ w.heap.size + 1 by omega) (by omega) B2.out)
  go_wp2_with fail
  refine bodyPost_ret (v := .tuple #[.agg #[.slice none 0 0, .int .i64 0], .int .i64 ck]) (by simp [results, Try.results34, go_sem, z0, z1]) rfl ⟨none, 0, ?_, ?_, ?_⟩
  · rw [E.out.1, E.out.2.1, E.out.2.2]; rfl
  · rw [E.out.1]; exact dNew_nil _ _ _
  · exact FN.out.2

set_option maxRecDepth 100000 in
set_option maxHeartbeats 1000000 in
theorem restrict_arg {w : World} {ds : List Nd} {a : Option Addr} {n cap : Nat} {root : Int} (hd : DAt w ds a) (hn : ds.length = n) (hl : n ≤ 9223372036854775807) {v bit : Int} {T : List Bool} (hc0 : chk ds root = 0) (harg : v < 0 ∨ 16 ≤ v ∨ (bit ≠ 0 ∧ bit ≠ 1)) :
    Calls Try.prog 34 #[.agg #[.slice a n cap, .int .i64 root], .int .i64 v, .int .i64 bit] w (DePost w 1 T) := by
  obtain ⟨x1, x2, x3, x4⟩ := two_new w (.cells #[.slice a n cap, .int .i64 root] 27) (.cells #[.slice none 0 0, .int .i64 0] 27) _ rfl
  have X1 := Lib.hid x1; clear x1
  have X2 := Lib.hid x2; clear x2
  have X3 := Lib.hid x3; clear x3
  have X4 := Lib.hid x4; clear x4
  have HD := Lib.hid hd; clear hd
  have C := Lib.hid (check_any (cap := cap) (root := root) (HD.out.below X4.out) hn hl)
  have HN := Lib.hid hn; clear hn
  have IV := Lib.hid (fun W => isVar_any v W)
  go_enter Try.func34, Try.ntmps34
  go_wp2_with fail
  generalize (w.alloc (.cells #[.slice a n cap, .int .i64 root] 27)).alloc (.cells #[.slice none 0 0, .int .i64 0] 27) = w1 at *
  refine C.out.mono ?_
  clear C
  rintro e w2 ⟨rfl, hb⟩
  have B2 := Lib.hid (Below.over X4.out X4.out.size hb)
  have b1 := Lib.hid ((hb.block _ (by rw [X3.out]; omega)).trans X1.out)
  have b2 := Lib.hid ((hb.block _ (by rw [X3.out]; omega)).trans X2.out)
  have hsz2 : w.heap.size + 2 ≤ w2.heap.size := by have := hb.size; rw [X3.out] at this; exact this
  clear hb X1 X2 X3 X4
  obtain ⟨ck, hck⟩ : ∃ ck, chk ds root = ck := ⟨_, rfl⟩
  rw [hck]
  have CK := Lib.hid hck; clear hck
  have hc : ck = 0 := by rw [← CK.out]; exact hc0
  clear hc0
  subst hc
  have E := Lib.hid (de_no (e := 1) rfl (by decide) T)
  obtain ⟨z0, z1, z2, z3⟩ := cells2 b2.out
  have l6 : w.heap.size + 1 < w2.heap.size := by omega
  have FN := Lib.hid (out_fin (x := .slice none 0 0) (y := .int .i64 0) (dNew_nil (w.heap.size + 2) w2 none) (show w.heap.size ≤ w.heap.size + 1 by omega) (by omega) B2.out)
  have DD : (decide (0 ≤ v ∧ v < 16) = false) ∨ (decide (0 ≤ v ∧ v < 16) = true ∧ (bit != 0) = true ∧ (bit != 1) = true) := by
    by_cases h : 0 ≤ v ∧ v < 16
    · right; refine ⟨by simpa using h, ?_, ?_⟩ <;> (rw [bne_iff_ne]; omega)
    · left; simpa using h
  go_wp2_with fail
  refine (IV.out w2).mono ?_
  rintro e wx ⟨rfl, hwx⟩
  replace hwx := hwx.symm
  subst hwx
  clear harg
  rcases DD with dv | ⟨dv, b0, b1'⟩
  all_goals
    rw [dv]
    go_wp2_with fail
    refine bodyPost_ret (v := .tuple #[.agg #[.slice none 0 0, .int .i64 0], .int .i64 1]) (by simp [results, Try.results34, go_sem, z0, z1]) rfl ⟨none, 0, ?_, ?_, ?_⟩
    · rw [E.out.1, E.out.2.1, E.out.2.2]; rfl
    · rw [E.out.1]; exact dNew_nil _ _ _
    · exact FN.out.2

end Go.Proofs.Ythhogbligfmpdaa
