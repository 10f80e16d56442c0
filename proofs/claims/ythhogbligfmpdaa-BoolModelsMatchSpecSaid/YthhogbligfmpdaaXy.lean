/- The law BoolModelsMatchSpec: its walk. -/
import Derived.Test.YthhogbligfmpdaaXg
import Derived.Test.YthhogbligfmpdaaXv
import Derived.Test.YthhogbligfmpdaaXx
import Derived.Test.YthhogbligfmpdaaPf
set_option linter.unusedVariables false
set_option linter.unusedSimpArgs false
namespace Go.Proofs.Ythhogbligfmpdaa
open Go.RowKit Bd

theorem mErr_bad {ds : List Nd} {r vars most : Int} (h : vErr ds r vars ≠ 0) : mErr ds r vars most = vErr ds r vars ∧ mList ds r vars most = [] := by
  have e : mErr ds r vars most = vErr ds r vars := by unfold mErr; rw [if_pos h]
  exact ⟨e, by unfold mList; rw [e, if_pos h]⟩
theorem mErr_arg {ds : List Nd} {r vars most : Int} (h : vErr ds r vars = 0) (hm : most < 0 ∨ 2000 < most) : mErr ds r vars most = 1 ∧ mList ds r vars most = [] := by
  have e : mErr ds r vars most = 1 := by unfold mErr; rw [if_neg (by simpa using h), if_pos hm]
  exact ⟨e, by unfold mList; rw [e]; rfl⟩
theorem mErr_ok {ds : List Nd} {r : Int} {V mo : Nat} (h : vErr ds r V = 0) (hm : mo ≤ 2000) : mErr ds r V mo = 0 ∧ mList ds r V mo = rls (tb ds 16 r) V mo (2 ^ V) := by
  have e : mErr ds r V mo = 0 := by unfold mErr; rw [if_neg (by simpa using h), if_neg (by omega)]
  obtain ⟨v1, v2, v3, v4⟩ := vErr_ok h
  obtain ⟨c1, c2, c3, _, _⟩ := chk_zero v1
  refine ⟨e, ?_⟩
  unfold mList rls
  rw [if_neg (by rw [e]; simp), Int.toNat_natCast, Int.toNat_natCast, mdl_hits c2 (by omega : V ≤ 16) v4 c3]
/-- All models. -/
theorem all_len {ds : List Nd} {r : Int} {V c N : Nat} (h : vErr ds r V = 0) (hN : 2 ^ V = N) (hc : CR ds V r 0 c) : (rls (tb ds 16 r) V N (2 ^ V)).length = c := by
  obtain ⟨v1, v2, v3, v4⟩ := vErr_ok h
  obtain ⟨c1, c2, c3, _, _⟩ := chk_zero v1
  have hm := CR.uniq hc (mdl_cr c2 (by omega : V ≤ 16) v4 c3)
  rw [mdl_hits c2 (by omega : V ≤ 16) v4 c3] at hm
  have hl : ((hits (tb ds 16 r) V (2 ^ V)).map (bitsOf V)).length ≤ N := by
    rw [List.length_map, ← hN]
    have := List.length_filter_le (fun j => (tb ds 16 r).getD (j * 2 ^ (16 - V)) false) (List.range (2 ^ V))
    rw [List.length_range] at this
    exact this
  unfold rls
  rw [List.take_of_length_le hl, hm]
theorem rls_short {T : List Bool} {V mo k : Nat} : ∀ l ∈ rls T V mo k, l.length ≤ 1000000 ∨ 16 < V := by
  intro l hl
  have := List.mem_of_mem_take hl
  obtain ⟨j, _, rfl⟩ := List.mem_map.1 this
  rw [bitsOf_len]
  omega

set_option maxRecDepth 100000 in
set_option maxHeartbeats 1000000 in
theorem law6_bad {w : World} {ds : List Nd} {a : Option Addr} {n cap : Nat} {root : Int} {vars most : Int} (hv : vErr ds root vars ≠ 0) (hd : DAt w ds a) (hn : ds.length = n) (hl : n ≤ 9223372036854775807) :
    Calls Try.prog 6 #[.agg #[.slice a n cap, .int .i64 root], .int .i64 vars, .int .i64 most] w fun e w' => e = .returned (.bool true) ∧ Below w.heap.size w w' := by
  have N1 := Lib.hid (heap_alloc_new w (.cells #[.slice a n cap, .int .i64 root] 27))
  have B1 : Hid (Below w.heap.size w (w.alloc (.cells #[.slice a n cap, .int .i64 root] 27))) := (Below.refl _ _).alloc (Nat.le_refl _) _
  have S1 : Hid ((w.alloc (.cells #[.slice a n cap, .int .i64 root] 27)).heap.size = w.heap.size + 1) := by show _ = _; simp
  have CC := Lib.hid (fun (W : World) (h : Below w.heap.size w W) => count_any (cap := cap) (root := root) (vars := vars) (hd.below h) hn hl)
  have CM := fun (W : World) (h : Below w.heap.size w W) => models_any (cap := cap) (root := root) (vars := vars) (most := most) (hd.below h) hn hl
  have CF := fun (W : World) (h : Below w.heap.size w W) => countFault_any (cap := cap) (root := root) (vars := vars) (hd.below h) hn hl
  have FIN := Lib.hid (fun (W : World) (h : Below w.heap.size w W) => (built_any W).mono fun e W' (x : e = .returned (.bool true) ∧ Below W.heap.size W W') => (⟨x.1, Below.over h h.size x.2⟩ : e = .returned (.bool true) ∧ Below w.heap.size w W'))
  obtain ⟨ve, hve⟩ : ∃ ve, vErr ds root vars = ve := ⟨_, rfl⟩
  obtain ⟨m1, m2⟩ := mErr_bad (most := most) hv
  rw [m1, m2, hve] at CM
  rw [hve] at CF
  have hne : (ve != 0) = true := by rw [bne_iff_ne, ← hve]; exact hv
  clear m1 m2 hd hn
  have CM := Lib.hid CM
  have CF := Lib.hid CF
  go_enter Try.func6, Try.ntmps6
  go_wp2_with fail
  generalize w.alloc (.cells #[.slice a n cap, .int .i64 root] 27) = w1 at *
  refine (CC.out w1 B1.out).mono ?_
  rintro e w2 ⟨c, rfl, hc0, hc1, bl2⟩
  have hc := hc0 hv
  subst hc
  clear hc0 hc1
  rw [hve]
  have B2 := Lib.hid (Below.over B1.out B1.out.size bl2)
  have P2 := Lib.hid ((bl2.block w.heap.size (by rw [S1.out]; omega)).trans N1.out)
  have z2 : w.heap.size < w2.heap.size := by have := bl2.size; rw [S1.out] at this; omega
  clear bl2
  obtain ⟨y0, y1, _⟩ := cells2 P2.out
  go_wp2_with fail
  refine (CM.out w2 B2.out).mono ?_
  clear y0 y1
  rintro e w3 ⟨a3, k3, rfl, la3, bl3⟩
  have LA3 := Lib.hid la3; clear la3
  have B3 := Lib.hid (Below.over B2.out B2.out.size bl3)
  have P3 := Lib.hid ((bl3.block w.heap.size z2).trans P2.out)
  have z3 : w.heap.size < w3.heap.size := by have := bl3.size; omega
  clear bl3
  obtain ⟨y0, y1, _⟩ := cells2 P3.out
  go_wp2_with fail
  refine (CF.out w3 B3.out).mono ?_
  clear y0 y1
  rintro e w4 ⟨rfl, bl4⟩
  have LA4 := Lib.hid (LA3.out.below bl4)
  have B4 := Lib.hid (Below.over B3.out B3.out.size bl4)
  have P4 := Lib.hid ((bl4.block w.heap.size z3).trans P3.out)
  have z4 : w.heap.size < w4.heap.size := by have := bl4.size; omega
  clear bl4 LA3
  have HVE := Lib.hid hve; clear hve
  have HV := Lib.hid hv; clear hv
  go_wp2_with fail
  refine (FIN.out _ B4.out).mono ?_
  rintro e w8 ⟨rfl, bl8⟩
  have B8 := Lib.hid bl8; clear bl8
  go_wp2_with fail
  go_ret
  exact ⟨rfl, B8.out⟩

set_option maxRecDepth 100000 in
set_option maxHeartbeats 1000000 in
theorem law6_arg {w : World} {ds : List Nd} {a : Option Addr} {n cap : Nat} {root : Int} {V : Nat} {most : Int} (hv : vErr ds root V = 0) (hm : most < 0 ∨ 2000 < most) (hd : DAt w ds a) (hn : ds.length = n) (hl : n ≤ 9223372036854775807) :
    Calls Try.prog 6 #[.agg #[.slice a n cap, .int .i64 root], .int .i64 V, .int .i64 most] w fun e w' => e = .returned (.bool true) ∧ Below w.heap.size w w' := by
  have N1 := Lib.hid (heap_alloc_new w (.cells #[.slice a n cap, .int .i64 root] 27))
  have B1 : Hid (Below w.heap.size w (w.alloc (.cells #[.slice a n cap, .int .i64 root] 27))) := (Below.refl _ _).alloc (Nat.le_refl _) _
  have S1 : Hid ((w.alloc (.cells #[.slice a n cap, .int .i64 root] 27)).heap.size = w.heap.size + 1) := by show _ = _; simp
  have CC := Lib.hid (fun (W : World) (h : Below w.heap.size w W) => count_any (cap := cap) (root := root) (vars := V) (hd.below h) hn hl)
  have CM := fun (W : World) (h : Below w.heap.size w W) => models_any (cap := cap) (root := root) (vars := V) (most := most) (hd.below h) hn hl
  have CF := fun (W : World) (h : Below w.heap.size w W) => countFault_any (cap := cap) (root := root) (vars := V) (hd.below h) hn hl
  have FIN := Lib.hid (fun (W : World) (h : Below w.heap.size w W) => (built_any W).mono fun e W' (x : e = .returned (.bool true) ∧ Below W.heap.size W W') => (⟨x.1, Below.over h h.size x.2⟩ : e = .returned (.bool true) ∧ Below w.heap.size w W'))
  obtain ⟨m1, m2⟩ := mErr_arg hv hm
  rw [m1, m2] at CM
  clear m1 m2
  obtain ⟨ve, hve⟩ : ∃ ve, vErr ds root V = ve := ⟨_, rfl⟩
  obtain ⟨v1, v2, v3, v4⟩ := vErr_ok hv
  obtain ⟨c1, c2, c3, _, _⟩ := chk_zero v1
  have h16 : V ≤ 16 := by omega
  have hn2 : n ≤ 2000 := by omega
  obtain ⟨N, hN⟩ : ∃ N, 2 ^ V = N := ⟨_, rfl⟩
  have hN6 : N ≤ 65536 := by rw [← hN, ← two16]; exact pow_mono h16
  have WN := Lib.hid (one_wrap hN hN6)
  have RM := Lib.hid (fun (W : World) (h : Below w.heap.size w W) (mo : Nat) (hmo : mo ≤ 65536) => rmodels_any (cap := cap) (root := root) (V := V) (mo := mo) (hd.below h) c2 c3 hn hn2 h16 hmo)
  rw [hv] at CF
  clear hd hn v1 v2 v4 c1 c2 c3 hve

  have CM := Lib.hid CM
  have CF := Lib.hid CF
  go_enter Try.func6, Try.ntmps6
  go_wp2_with fail
  generalize w.alloc (.cells #[.slice a n cap, .int .i64 root] 27) = w1 at *
  refine (CC.out w1 B1.out).mono ?_
  rintro e w2 ⟨c, rfl, hc0, hc1, bl2⟩
  rw [hv]
  have K1 := hc1 hv
  rw [Int.toNat_natCast] at K1
  have AL := Lib.hid (all_len hv hN K1)
  have cle : c ≤ 65536 := CR.le16 K1 (Nat.zero_le _) h16
  clear hc0 hc1 K1
  have B2 := Lib.hid (Below.over B1.out B1.out.size bl2)
  have P2 := Lib.hid ((bl2.block w.heap.size (by rw [S1.out]; omega)).trans N1.out)
  have z2 : w.heap.size < w2.heap.size := by have := bl2.size; rw [S1.out] at this; omega
  clear bl2
  obtain ⟨y0, y1, _⟩ := cells2 P2.out
  go_wp2_with fail
  refine (CM.out w2 B2.out).mono ?_
  clear y0 y1
  rintro e w3 ⟨a3, k3, rfl, la3, bl3⟩
  have LA3 := Lib.hid la3; clear la3
  have B3 := Lib.hid (Below.over B2.out B2.out.size bl3)
  have P3 := Lib.hid ((bl3.block w.heap.size z2).trans P2.out)
  have z3 : w.heap.size < w3.heap.size := by have := bl3.size; omega
  clear bl3
  obtain ⟨y0, y1, _⟩ := cells2 P3.out
  go_wp2_with fail
  refine (CF.out w3 B3.out).mono ?_
  clear y0 y1
  rintro e w4 ⟨rfl, bl4⟩
  have LA4 := Lib.hid (LA3.out.below bl4)
  have B4 := Lib.hid (Below.over B3.out B3.out.size bl4)
  have P4 := Lib.hid ((bl4.block w.heap.size z3).trans P3.out)
  have z4 : w.heap.size < w4.heap.size := by have := bl4.size; omega
  clear bl4 LA3
  have HV := Lib.hid hv; clear hv
  have HN := Lib.hid hN; clear hN
  clear v3
  obtain ⟨y0, y1, _⟩ := cells2 P4.out
  have C6 := Lib.hid (RM.out w4.drew B4.out.drew N hN6)
  have wn1 := WN.out.1
  have wn2 := WN.out.2
  have V63 : (V : Int) ≤ 16 := by omega
  go_upto_region 6 with fail
  go_region_held3 (fun W => W.cell? ⟨w.heap.size, 0, none⟩ = some (.slice a n cap) ∧ W.cell? ⟨w.heap.size, 1, none⟩ = some (.int .i64 root))
    (first
      | exact ⟨y0, y1⟩
      | exact ⟨s0, s1⟩
      | go_keep)
    (first
      | (go_at_call 27; refine C6.out.mono ?_; rintro e w5 ⟨a5, k5, rfl, _, bl5⟩; rw [AL.out]; have s0 := cell_later bl5 y0; have s1 := cell_later bl5 y1; have LA5 := Lib.hid (LA4.out.below (Below.over (Below.refl w4.heap.size w4).drew (Nat.le_refl _) bl5)); have B5 := Lib.hid (Below.over B4.out.drew B4.out.size bl5); have z5 : w4.heap.size ≤ w5.heap.size := bl5.size; clear bl5))
  clear wn1 wn2 y0 y1
  rcases hm with hm | hm
  · go_wp2_with fail
    refine (FIN.out _ B5.out).mono ?_
    rintro e w8 ⟨rfl, bl8⟩
    have B8 := Lib.hid bl8; clear bl8
    go_wp2_with fail
    go_ret
    exact ⟨rfl, B8.out⟩
  · have hm2 : ¬ most < 0 := by omega
    go_wp2_with fail
    refine (FIN.out _ B5.out).mono ?_
    rintro e w8 ⟨rfl, bl8⟩
    have B8 := Lib.hid bl8; clear bl8
    go_wp2_with fail
    go_ret
    exact ⟨rfl, B8.out⟩

set_option maxRecDepth 100000 in
set_option maxHeartbeats 1000000 in
theorem law6_ok {w : World} {ds : List Nd} {a : Option Addr} {n cap : Nat} {root : Int} {V mo : Nat} {most : Int} (hv : vErr ds root V = 0) (hm : mo ≤ 2000) (hmo : most = mo) (hd : DAt w ds a) (hn : ds.length = n) (hl : n ≤ 9223372036854775807) :
    Calls Try.prog 6 #[.agg #[.slice a n cap, .int .i64 root], .int .i64 V, .int .i64 most] w fun e w' => e = .returned (.bool true) ∧ Below w.heap.size w w' := by
  have N1 := Lib.hid (heap_alloc_new w (.cells #[.slice a n cap, .int .i64 root] 27))
  have B1 : Hid (Below w.heap.size w (w.alloc (.cells #[.slice a n cap, .int .i64 root] 27))) := (Below.refl _ _).alloc (Nat.le_refl _) _
  have S1 : Hid ((w.alloc (.cells #[.slice a n cap, .int .i64 root] 27)).heap.size = w.heap.size + 1) := by show _ = _; simp
  have CC := Lib.hid (fun (W : World) (h : Below w.heap.size w W) => count_any (cap := cap) (root := root) (vars := V) (hd.below h) hn hl)
  have CM := fun (W : World) (h : Below w.heap.size w W) => models_any (cap := cap) (root := root) (vars := V) (most := most) (hd.below h) hn hl
  have CF := fun (W : World) (h : Below w.heap.size w W) => countFault_any (cap := cap) (root := root) (vars := V) (hd.below h) hn hl
  have FIN := Lib.hid (fun (W : World) (h : Below w.heap.size w W) => (built_any W).mono fun e W' (x : e = .returned (.bool true) ∧ Below W.heap.size W W') => (⟨x.1, Below.over h h.size x.2⟩ : e = .returned (.bool true) ∧ Below w.heap.size w W'))
  obtain ⟨m1, m2⟩ := mErr_ok hv hm
  obtain ⟨LS, hLS⟩ : ∃ LS, rls (tb ds 16 root) V mo (2 ^ V) = LS := ⟨_, rfl⟩
  rw [← hmo] at m1 m2
  rw [hLS] at m2
  rw [m1, m2] at CM
  clear m1 m2
  have HLS := Lib.hid hLS; clear hLS
  have q1 : 0 ≤ most := by omega
  have q2 : most ≤ 2000 := by omega
  have HMO := Lib.hid hmo; clear hmo
  obtain ⟨ve, hve⟩ : ∃ ve, vErr ds root V = ve := ⟨_, rfl⟩
  obtain ⟨v1, v2, v3, v4⟩ := vErr_ok hv
  obtain ⟨c1, c2, c3, _, _⟩ := chk_zero v1
  have h16 : V ≤ 16 := by omega
  have hn2 : n ≤ 2000 := by omega
  obtain ⟨N, hN⟩ : ∃ N, 2 ^ V = N := ⟨_, rfl⟩
  have hN6 : N ≤ 65536 := by rw [← hN, ← two16]; exact pow_mono h16
  have WN := Lib.hid (one_wrap hN hN6)
  have RM := Lib.hid (fun (W : World) (h : Below w.heap.size w W) (mo : Nat) (hmo : mo ≤ 65536) => rmodels_any (cap := cap) (root := root) (V := V) (mo := mo) (hd.below h) c2 c3 hn hn2 h16 hmo)
  rw [hv] at CF
  clear hd hn v1 v2 v4 c1 c2 c3 hve

  have CM := Lib.hid CM
  have CF := Lib.hid CF
  go_enter Try.func6, Try.ntmps6
  go_wp2_with fail
  generalize w.alloc (.cells #[.slice a n cap, .int .i64 root] 27) = w1 at *
  refine (CC.out w1 B1.out).mono ?_
  rintro e w2 ⟨c, rfl, hc0, hc1, bl2⟩
  rw [hv]
  have K1 := hc1 hv
  rw [Int.toNat_natCast] at K1
  have AL := Lib.hid (all_len hv hN K1)
  have cle : c ≤ 65536 := CR.le16 K1 (Nat.zero_le _) h16
  clear hc0 hc1 K1
  have B2 := Lib.hid (Below.over B1.out B1.out.size bl2)
  have P2 := Lib.hid ((bl2.block w.heap.size (by rw [S1.out]; omega)).trans N1.out)
  have z2 : w.heap.size < w2.heap.size := by have := bl2.size; rw [S1.out] at this; omega
  clear bl2
  obtain ⟨y0, y1, _⟩ := cells2 P2.out
  go_wp2_with fail
  refine (CM.out w2 B2.out).mono ?_
  clear y0 y1
  rintro e w3 ⟨a3, k3, rfl, la3, bl3⟩
  have LA3 := Lib.hid la3; clear la3
  have B3 := Lib.hid (Below.over B2.out B2.out.size bl3)
  have P3 := Lib.hid ((bl3.block w.heap.size z2).trans P2.out)
  have z3 : w.heap.size < w3.heap.size := by have := bl3.size; omega
  clear bl3
  obtain ⟨y0, y1, _⟩ := cells2 P3.out
  go_wp2_with fail
  refine (CF.out w3 B3.out).mono ?_
  clear y0 y1
  rintro e w4 ⟨rfl, bl4⟩
  have LA4 := Lib.hid (LA3.out.below bl4)
  have B4 := Lib.hid (Below.over B3.out B3.out.size bl4)
  have P4 := Lib.hid ((bl4.block w.heap.size z3).trans P3.out)
  have z4 : w.heap.size < w4.heap.size := by have := bl4.size; omega
  clear bl4 LA3
  have HV := Lib.hid hv; clear hv
  have HN := Lib.hid hN; clear hN
  clear v3
  obtain ⟨y0, y1, _⟩ := cells2 P4.out
  have C6 := Lib.hid (RM.out w4.drew B4.out.drew N hN6)
  have wn1 := WN.out.1
  have wn2 := WN.out.2
  have V63 : (V : Int) ≤ 16 := by omega
  go_upto_region 6 with fail
  go_region_held3 (fun W => W.cell? ⟨w.heap.size, 0, none⟩ = some (.slice a n cap) ∧ W.cell? ⟨w.heap.size, 1, none⟩ = some (.int .i64 root))
    (first
      | exact ⟨y0, y1⟩
      | exact ⟨s0, s1⟩
      | go_keep)
    (first
      | (go_at_call 27; refine C6.out.mono ?_; rintro e w5 ⟨a5, k5, rfl, _, bl5⟩; rw [AL.out]; have s0 := cell_later bl5 y0; have s1 := cell_later bl5 y1; have LA5 := Lib.hid (LA4.out.below (Below.over (Below.refl w4.heap.size w4).drew (Nat.le_refl _) bl5)); have B5 := Lib.hid (Below.over B4.out.drew B4.out.size bl5); have z5 : w4.heap.size ≤ w5.heap.size := bl5.size; clear bl5))
  clear wn1 wn2 y0 y1
  have C7 := RM.out w5 B5.out mo (by omega)
  rw [← HMO.out, HLS.out] at C7
  have C7 := Lib.hid C7
  have SH : ∀ l ∈ rls (tb ds 16 root) V mo (2 ^ V), l.length ≤ 1000000 := fun l hl => by
    rcases rls_short l hl with e | e
    · exact e
    · omega
  have LL : (rls (tb ds 16 root) V mo (2 ^ V)).length ≤ 2000 := Nat.le_trans (rls_le (tb ds 16 root) V mo (2 ^ V)) hm
  rw [HLS.out] at SH LL
  have SH := Lib.hid SH
  have m1 : ¬ (most < 0) := by omega
  have m2 : ¬ ((2000 : Int) < most) := by omega
  clear hm RM
  go_upto_region 10 with fail
  clear q1 q2 m1 m2 V63
  go_wp2_with fail
  refine C7.out.mono ?_
  rintro e w6 ⟨a6, k6, rfl, la6, bl6⟩
  have B6 := Lib.hid (Below.over B5.out B5.out.size bl6)
  have SL := Lib.hid (sameLists_true (c1 := k3) (c2 := k6) (LA5.out.below bl6) la6 rfl (by omega) SH.out)
  clear la6 bl6
  go_wp2_with fail
  refine SL.out.mono ?_
  rintro e w7 ⟨rfl, hq⟩
  have B7 := Lib.hid (Below.over B6.out B6.out.size hq.below); clear hq
  go_wp2_with fail
  refine (FIN.out _ B7.out).mono ?_
  rintro e w8 ⟨rfl, bl8⟩
  have B8 := Lib.hid bl8; clear bl8
  go_wp2_with fail
  go_ret
  exact ⟨rfl, B8.out⟩

theorem law6_any {w : World} {ds : List Nd} {a : Option Addr} {n cap : Nat} {root vars most : Int} (hd : DAt w ds a) (hn : ds.length = n) (hl : n ≤ 9223372036854775807) :
    Calls Try.prog 6 #[.agg #[.slice a n cap, .int .i64 root], .int .i64 vars, .int .i64 most] w fun e w' => e = .returned (.bool true) ∧ Below w.heap.size w w' := by
  by_cases hv : vErr ds root vars = 0
  · obtain ⟨_, v2, _, _⟩ := vErr_ok hv
    obtain ⟨V, rfl⟩ := Int.eq_ofNat_of_zero_le v2
    by_cases hm : most < 0 ∨ 2000 < most
    · exact law6_arg hv hm hd hn hl
    · obtain ⟨mo, hmo⟩ := Int.eq_ofNat_of_zero_le (by omega : 0 ≤ most)
      exact law6_ok hv (by omega) hmo hd hn hl
  · exact law6_bad hv hd hn hl

end Go.Proofs.Ythhogbligfmpdaa
