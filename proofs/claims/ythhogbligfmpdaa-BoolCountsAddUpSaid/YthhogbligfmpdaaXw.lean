/- The law BoolCountsAddUp: its walk. -/
import Derived.Test.YthhogbligfmpdaaXg
import Derived.Test.YthhogbligfmpdaaXh
import Derived.Test.YthhogbligfmpdaaXv
import Derived.Test.YthhogbligfmpdaaPf
set_option linter.unusedVariables false
set_option linter.unusedSimpArgs false
namespace Go.Proofs.Ythhogbligfmpdaa
open Go.RowKit Bd

theorem de_len' (e : Int) (T : List Bool) : (deN e T).length ≤ 1000000 := by
  unfold deN
  split
  · simp
  · exact out_len T

/-- What Not hands back, where it and Count succeed. -/
theorem not_facts {ds : List Nd} {r vars : Int} (h : vErr ds r vars = 0) (hf : deE (chk ds r) (tl fun x => !fnT (tb ds 16 r) x) = 0) :
    vErr (deN (chk ds r) (tl fun x => !fnT (tb ds 16 r) x)) (deR (chk ds r) (tl fun x => !fnT (tb ds 16 r) x)) vars = 0 ∧
      tb (deN (chk ds r) (tl fun x => !fnT (tb ds 16 r) x)) 16 (deR (chk ds r) (tl fun x => !fnT (tb ds 16 r) x)) = (tb ds 16 r).map (!·) := by
  obtain ⟨v1, v2, v3, v4⟩ := vErr_ok h
  obtain ⟨V, rfl⟩ := Int.eq_ofNat_of_zero_le v2
  obtain ⟨c1, c2, c3, _, _⟩ := chk_zero v1
  have hT : (tb ds 16 r).length = 65536 := by rw [tb_length, two16]
  have eT : (tl fun x => !fnT (tb ds 16 r) x) = (tb ds 16 r).map (!·) := tl_not _ (tl_fnT hT)
  have hT2 : ((tb ds 16 r).map (!·)).length = 65536 := by rw [List.length_map, hT]
  have hc : Cst (16 - V) 16 ((tb ds 16 r).map (!·)) := cst_map _ 16 (tb_cst c2 (by omega) v4 16 (Nat.le_refl _) c3 (by have := (c2.top_lt c3).1; omega))
  rw [eT] at hf ⊢
  obtain ⟨e1, e2, e3⟩ := de_ok v1 ((tb ds 16 r).map (!·))
  rw [e3] at hf
  have hl : (cnNodes ((tb ds 16 r).map (!·))).length ≤ 2000 := by
    unfold outErr at hf
    by_cases hl : (cnNodes ((tb ds 16 r).map (!·))).length ≤ 2000
    · exact hl
    · rw [if_neg hl] at hf; omega
  have n1 : outNodes ((tb ds 16 r).map (!·)) = cnNodes ((tb ds 16 r).map (!·)) := by unfold outNodes; rw [if_pos hl]
  have n2 : outRoot ((tb ds 16 r).map (!·)) = cnRoot ((tb ds 16 r).map (!·)) := by unfold outRoot; rw [if_pos hl]
  rw [e1, e2, n1, n2]
  refine ⟨vErr_zero (chk_cn hT2 hl) ?_, cn_tb hT2⟩
  rintro (x | x | ⟨i, hi, x⟩)
  · omega
  · omega
  · have := cn_over hT2 (by omega : V ≤ 16) hc i hi
    omega

/-- The number of models that are handed back. -/
theorem models_len {ds : List Nd} {r vars : Int} {c : Nat} (h : vErr ds r vars = 0) (hc : CR ds vars.toNat r 0 c) : mErr ds r vars 2000 = 0 ∧ (mList ds r vars 2000).length = min c 2000 := by
  obtain ⟨v1, v2, v3, v4⟩ := vErr_ok h
  obtain ⟨V, rfl⟩ := Int.eq_ofNat_of_zero_le v2
  obtain ⟨c1, c2, c3, _, _⟩ := chk_zero v1
  have e : mErr ds r V 2000 = 0 := by unfold mErr; rw [if_neg (by rw [h]; simp), if_neg (by omega)]
  refine ⟨e, ?_⟩
  have hm := CR.uniq hc (mdl_cr c2 (by omega : V ≤ 16) v4 c3)
  unfold mList
  rw [if_neg (by rw [e]; simp), List.length_take, Int.toNat_natCast, ← hm, Nat.min_comm]
  rfl

set_option maxRecDepth 100000 in
set_option maxHeartbeats 1000000 in
theorem law7_any {w : World} {ds : List Nd} {a : Option Addr} {n cap : Nat} {root vars : Int} (hd : DAt w ds a) (hn : ds.length = n) (hl : n ≤ 9223372036854775807) :
    Calls Try.prog 7 #[.agg #[.slice a n cap, .int .i64 root], .int .i64 vars] w fun e w' => e = .returned (.bool true) ∧ Below w.heap.size w w' := by
  have N1 := Lib.hid (heap_alloc_new w (.cells #[.slice a n cap, .int .i64 root] 27))
  have B1 : Hid (Below w.heap.size w (w.alloc (.cells #[.slice a n cap, .int .i64 root] 27))) := (Below.refl _ _).alloc (Nat.le_refl _) _
  have S1 : Hid ((w.alloc (.cells #[.slice a n cap, .int .i64 root] 27)).heap.size = w.heap.size + 1) := by show _ = _; simp
  have CC := Lib.hid (fun (W : World) (h : Below w.heap.size w W) => count_any (cap := cap) (root := root) (vars := vars) (hd.below h) hn hl)
  have CN := Lib.hid (fun (W : World) (h : Below w.heap.size w W) => Not_any (cap := cap) (root := root) (hd.below h) hn hl)
  have CM := Lib.hid (fun (W : World) (h : Below w.heap.size w W) => models_any (cap := cap) (root := root) (vars := vars) (most := 2000) (hd.below h) hn hl)
  have FIN := Lib.hid (fun (W : World) (h : Below w.heap.size w W) => (built_any W).mono fun e W' (x : e = .returned (.bool true) ∧ Below W.heap.size W W') => (⟨x.1, Below.over h h.size x.2⟩ : e = .returned (.bool true) ∧ Below w.heap.size w W'))
  clear hd hn
  go_enter Try.func7, Try.ntmps7
  go_wp2_with fail
  generalize w.alloc (.cells #[.slice a n cap, .int .i64 root] 27) = w1 at *
  refine (CC.out w1 B1.out).mono ?_
  rintro e w2 ⟨c, rfl, hc0, hc1, bl2⟩
  have C0 := Lib.hid hc0; clear hc0
  have C1 := Lib.hid hc1; clear hc1
  have B2 := Lib.hid (Below.over B1.out B1.out.size bl2)
  have P2 := Lib.hid ((bl2.block w.heap.size (by rw [S1.out]; omega)).trans N1.out)
  have z2 : w.heap.size < w2.heap.size := by have := bl2.size; rw [S1.out] at this; omega
  clear bl2
  obtain ⟨ve, hve⟩ : ∃ ve, vErr ds root vars = ve := ⟨_, rfl⟩
  rw [hve] at C0 C1
  rw [hve]
  have HVE := Lib.hid hve; clear hve
  obtain ⟨y0, y1, _⟩ := cells2 P2.out
  go_wp2_with fail
  refine (CN.out w2 B2.out).mono ?_
  clear y0 y1
  rintro e w3 ⟨a3, k3, rfl, dn3, bl3⟩
  have NF := Lib.hid (not_facts (ds := ds) (r := root) (vars := vars))
  have DL := Lib.hid (de_len' (chk ds root) (tl fun x => !fnT (tb ds 16 root) x))
  obtain ⟨O, hO⟩ : ∃ O, deN (chk ds root) (tl fun x => !fnT (tb ds 16 root) x) = O := ⟨_, rfl⟩
  obtain ⟨rt, hrt⟩ : ∃ rt, deR (chk ds root) (tl fun x => !fnT (tb ds 16 root) x) = rt := ⟨_, rfl⟩
  obtain ⟨er, her⟩ : ∃ er, deE (chk ds root) (tl fun x => !fnT (tb ds 16 root) x) = er := ⟨_, rfl⟩
  rw [hO, hrt, her] at NF
  rw [hO] at DL dn3
  rw [hO, hrt, her]
  clear hO hrt her
  have D3 := Lib.hid dn3.dAt; clear dn3
  have V3 := Lib.hid bl3; clear bl3
  have z3 : w2.heap.size ≤ w3.heap.size := V3.out.size
  have A3 : Hid (Below w3.heap.size w3 (w3.alloc (.cells #[.slice a3 O.length k3, .int .i64 rt] 27))) := (Below.refl _ _).alloc (Nat.le_refl _) _
  have N4 := Lib.hid (heap_alloc_new w3 (.cells #[.slice a3 O.length k3, .int .i64 rt] 27))
  have S4 : Hid ((w3.alloc (.cells #[.slice a3 O.length k3, .int .i64 rt] 27)).heap.size = w3.heap.size + 1) := by show _ = _; simp
  have B4 := Lib.hid (Below.over B2.out B2.out.size (Below.over V3.out V3.out.size A3.out))
  have P4 := Lib.hid ((A3.out.block w.heap.size (by omega)).trans ((V3.out.block w.heap.size z2).trans P2.out))
  have fin : Hid (∀ (W : World), Below w.heap.size w W → True) := fun _ _ => trivial
  clear fin
  by_cases q1 : ve = 0
  · subst q1
    by_cases q2 : er = 0
    · subst q2
      obtain ⟨nf1, nf2⟩ := NF.out HVE.out rfl
      have N1F := Lib.hid nf1; clear nf1
      have N2F := Lib.hid nf2; clear nf2
      have CB := Lib.hid (count_any (cap := k3) (root := rt) (vars := vars) (D3.out.below A3.out) rfl (Nat.le_trans DL.out (by omega)))
      have K1 := Lib.hid (C1.out rfl)
      obtain ⟨v1, v2, v3, v4⟩ := vErr_ok HVE.out
      obtain ⟨V, rfl⟩ := Int.eq_ofNat_of_zero_le v2
      have h16 : V ≤ 16 := by omega
      clear v1 v4 v2
      have ML := Lib.hid (models_len HVE.out K1.out)
      have cle : c ≤ 65536 := CR.le16 K1.out (Nat.zero_le _) (by rw [Int.toNat_natCast]; exact h16)
      have SUM := Lib.hid (fun (d : Nat) (k : CR O V rt 0 d) => cr_sum h16 (by have := K1.out; rw [Int.toNat_natCast] at this; exact this) k N2F.out)
      clear C0 C1 NF CN CC
      go_wp2_with fail
      generalize w3.alloc (.cells #[.slice a3 O.length k3, .int .i64 rt] 27) = w4 at *
      refine CB.out.mono ?_
      rintro e w5 ⟨d, rfl, _, hd1, bl5⟩
      rw [N1F.out]
      have KD := Lib.hid (hd1 N1F.out); clear hd1
      have sm := SUM.out d (by have := KD.out; rw [Int.toNat_natCast] at this; exact this)
      have B5 := Lib.hid (Below.over B4.out B4.out.size bl5)
      obtain ⟨y0, y1, _⟩ := cells2 ((bl5.block w.heap.size (by rw [S4.out]; omega)).trans P4.out)
      clear bl5 CB SUM
      have p16 : 2 ^ V ≤ 65536 := by have := pow_mono h16; rw [two16] at this; exact this
      have WP := Lib.hid (wr_pow p16)
      have SM := Lib.hid sm
      have dle : c + d ≤ 65536 := by omega
      clear sm p16
      go_wp2_with fail
      refine (CM.out w5 B5.out).mono ?_
      clear y0 y1 CM
      rintro e w6 ⟨a6, k6, rfl, _, bl6⟩
      have B6 := Lib.hid (Below.over B5.out B5.out.size bl6); clear bl6
      rw [ML.out.1]
      have ML2 := Lib.hid ML.out.2
      generalize (mList ds root V 2000).length = ml at *
      have tst : ((c : Int) + (d : Int) == wrap64 (2 ^ V)) = true := by rw [WP.out, ← SM.out]; simp
      have V15 : (V : Int) ≤ 63 := by omega
      clear v3
      by_cases hc2 : c ≤ 2000
      · obtain rfl : ml = c := by rw [ML2.out]; omega
        have i2 : (ml : Int) ≤ 2000 := by omega
        clear tst
        have tst : ((ml : Int) + (d : Int) == wrap64 (2 ^ V)) = true := by rw [WP.out, ← SM.out]; simp
        go_wp2_with fail
        refine (FIN.out _ B6.out).mono ?_
        rintro e w8 ⟨rfl, bl8⟩
        have B8 := Lib.hid bl8; clear bl8
        go_wp2_with fail
        go_ret
        exact ⟨rfl, B8.out⟩
      · obtain rfl : ml = 2000 := by rw [ML2.out]; omega
        have i2 : (2000 : Int) ≤ (c : Int) := by omega
        go_wp2_with fail
        refine (FIN.out _ B6.out).mono ?_
        rintro e w8 ⟨rfl, bl8⟩
        have B8 := Lib.hid bl8; clear bl8
        go_wp2_with fail
        go_ret
        exact ⟨rfl, B8.out⟩
    · have p2 : (er != 0) = true := by simpa using q2
      clear q2
      go_wp2_with fail
      refine (FIN.out _ B4.out).mono ?_
      rintro e w8 ⟨rfl, bl8⟩
      have B8 := Lib.hid bl8; clear bl8
      go_wp2_with fail
      go_ret
      exact ⟨rfl, B8.out⟩
  · have p1 : (ve != 0) = true := by simpa using q1
    clear q1
    go_wp2_with fail
    refine (FIN.out _ B4.out).mono ?_
    rintro e w8 ⟨rfl, bl8⟩
    have B8 := Lib.hid bl8; clear bl8
    go_wp2_with fail
    go_ret
    exact ⟨rfl, B8.out⟩

end Go.Proofs.Ythhogbligfmpdaa
