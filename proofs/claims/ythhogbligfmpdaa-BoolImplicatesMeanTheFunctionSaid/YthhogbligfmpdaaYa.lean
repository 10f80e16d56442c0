/- Support: the library's Sort and Compact at a row of one's own; support, Support. -/
import Derived.Test.YthhogbligfmpdaaXq
import Derived.Test.YthhogbligfmpdaaSh
import Derived.Test.YthhogbligfmpdaaPm
import Derived.Sort.OwnSortedInts
set_option linter.unusedVariables false
set_option linter.unusedSimpArgs false
namespace Go.Proofs.Ythhogbligfmpdaa
open Go.RowKit Bd

theorem grow_nil (w : World) : Go.Sort.grow w #[] = w := by simp [Go.Sort.grow]

theorem sort_own {w : World} {T n lc : Nat} {la : Option Addr} {zs : List Int} (h : w.ownsRow T 3 1 (.slice la n lc) n (zs.map (Value.int .i64))) (hl : n ≤ 1000000) (hT : T ≤ w.heap.size) :
    Calls Try.prog 87 #[.slice la n lc] w fun e w' => e = .returned (.tuple #[]) ∧ w'.ownsRow T 3 1 (.slice la n lc) n ((srt zs).map (Value.int .i64)) ∧ Below T w w' := by
  have hz : zs.length = n := by have := h.1; simpa using this
  rcases h.2 with ⟨h1, h2⟩ | ⟨g, cap, cur, h1, h2, h3, h4, h5, h6, h7⟩
  · subst h2
    have h0 : zs = [] := List.length_eq_zero_iff.1 hz
    subst h0
    refine (Try.slices_Sort_int_none la lc w).mono ?_
    rintro e w' ⟨rfl, rfl⟩
    exact ⟨rfl, by have e : srt [] = [] := List.length_eq_zero_iff.1 (srt_len []); rw [e]; exact h, Below.refl _ _⟩
  · injection h1 with e1 e2 e3
    subst e1 e3 hz
    refine (Try.slices_Sort_int g 0 lc zs w (holds_of_blockI h3 (by simpa using h7)) (Array.getElem?_eq_some_iff.1 h3).1 (by omega)).mono ?_
    rintro e w' ⟨rfl, k, os, rfl⟩
    have gb := grownBy_sortedI (w := w) (g := g) (n := k) (os := os) (srt zs).toArray
    refine ⟨rfl, ownsRow_sortedI (srt_len zs) h2 h3 h4 h5 h6, gb.os, gb.tape, gb.output, gb.size, fun b hb => gb.block b (by omega) (fun e => ?_)⟩
    injection e with e
    omega

theorem compact_own {w : World} {T n lc : Nat} {la : Option Addr} {zs : List Int} (h : w.ownsRow T 3 1 (.slice la n lc) n (zs.map (Value.int .i64))) (hl : n ≤ 1000000) (hT : T ≤ w.heap.size) :
    Calls Try.prog 69 #[.slice la n lc] w fun e w' => e = .returned (.slice la (Lib.compact zs).length lc) ∧ IAt w' (Lib.compact zs) la ∧ Below T w w' := by
  have hz : zs.length = n := by have := h.1; simpa using this
  have hle := Lib.compact_length_le zs
  rcases h.2 with ⟨h1, h2⟩ | ⟨g, cap, cur, h1, h2, h3, h4, h5, h6, h7⟩
  · subst h2
    have h0 : zs = [] := List.length_eq_zero_iff.1 hz
    subst h0
    refine (Try.slices_Compact_int_empty la lc w).mono ?_
    rintro e w' ⟨rfl, rfl⟩
    exact ⟨rfl, iAt_nil _ _, Below.refl _ _⟩
  · injection h1 with e1 e2 e3
    subst e1 e3 hz
    refine (Try.slices_Compact_int g 0 lc zs w (holds_of_blockI h3 (by simpa using h7)) (by omega) h4).mono ?_
    rintro e w' ⟨rfl, k, hw⟩
    have hlen : (Lib.compact zs ++ List.replicate (zs.length - (Lib.compact zs).length) 0).length = zs.length := by simp; omega
    have gb := grownBy_sortedI (w := w) (g := g) (n := k) (os := #[]) (Lib.compact zs ++ List.replicate (zs.length - (Lib.compact zs).length) 0).toArray
    have ow := ownsRow_sortedI (n := k) (os := #[]) hlen h2 h3 h4 h5 h6
    rw [grow_nil, ← hw] at gb ow
    refine ⟨rfl, fun _ => ⟨g, 0, rfl, fun i hi => ?_⟩, gb.os, gb.tape, gb.output, gb.size, fun b hb => gb.block b (by omega) (fun e => ?_)⟩
    · have := ow.cellAt i (by omega)
      rw [Nat.zero_add, this, List.getElem?_map, List.getElem?_append_left hi, List.getElem?_eq_getElem hi, List.getD_eq_getElem?_getD, List.getElem?_eq_getElem hi]
      rfl
    · injection e with e
      omega

/-- A list of integers is returned. -/
def IePost (w : World) (l : List Int) (e : Ending) (w' : World) : Prop := ∃ a cap, e = .returned (.slice a l.length cap) ∧ IAt w' l a ∧ Below w.heap.size w w'

def SuL (ds : List Nd) (n : Nat) (w : World) (ov iv : Value) (wr : World) : Prop :=
  ∃ (k : Nat) (la : Option Addr) (lc : Nat), k ≤ n ∧ iv = .int .i64 k ∧ ov = .slice la k lc ∧ wr.ownsRow w.heap.size 3 1 ov k (((ds.take k).map (·.1)).map (Value.int .i64)) ∧ Below w.heap.size w wr

set_option maxRecDepth 100000 in
set_option maxHeartbeats 1000000 in
theorem support_any {w : World} {ds : List Nd} {a : Option Addr} {n cap : Nat} {root : Int} (hd : DAt w ds a) (hn : ds.length = n) (hl : n ≤ 2000) (hv : ∀ x ∈ ds, 0 ≤ x.1 ∧ x.1 < 16) :
    Calls Try.prog 62 #[.agg #[.slice a n cap, .int .i64 root]] w (IePost w (sup ds)) := by
  have HD := Lib.hid hd; clear hd
  have HN := Lib.hid hn; clear hn
  have HC := Lib.hid (compact_sup hv); clear hv
  have B1 : Hid (Below w.heap.size w (w.alloc (.cells #[.slice a n cap, .int .i64 root] 27))) := (Below.refl _ _).alloc (Nat.le_refl _) _
  have X : Hid ((w.alloc (.cells #[.slice a n cap, .int .i64 root] 27)).heap[w.heap.size]? = some (.cells #[.slice a n cap, .int .i64 root] 27 (0, 0))) := heap_alloc_new w _
  obtain ⟨i0, hi0, hz0, hz1, hz2⟩ := info_parts info3
  go_enter Try.func62, Try.ntmps62
  go_wp2_with fail
  generalize w.alloc (.cells #[.slice a n cap, .int .i64 root] 27) = w1 at *
  go_loopw [3, 9] (fun ov iv wr => SuL ds n w1 ov iv wr) (fun _ iv _ => n - (intOf iv).toNat)
  case atStart => exact ⟨0, none, 0, by omega, rfl, rfl, ⟨by simp, Or.inl ⟨rfl, rfl⟩⟩, Below.refl _ _⟩
  case round =>
    obtain ⟨k, la, lc, hk, rfl, rfl, row, bl⟩ := hrel
    have RW := Lib.hid row; clear row
    have BL := Lib.hid bl
    have bls : w1.heap.size ≤ wr.heap.size := bl.size
    clear bl
    by_cases hkn : k < n
    · have i1 : (k : Int) < (n : Int) := by omega
      have hkd : k < ds.length := by rw [HN.out]; exact hkn
      have BR : Hid (Below w.heap.size w wr) := Below.over B1.out B1.out.size BL.out
      obtain ⟨bd, od, rfl, dd⟩ := HD.out (by intro e; rw [e] at hkd; simp at hkd)
      obtain ⟨p1, p2, p3⟩ := kid_cells BR.out (dd k hkd)
      clear dd
      have TK : Hid ((ds.take (k + 1)).map (·.1) = (ds.take k).map (·.1) ++ [(nd ds k).1]) := by
        show _ = _
        rw [List.take_succ_eq_append_getElem hkd, List.map_append]
        congr 1
        show [ds[k].1] = [(nd ds (k : Int)).1]
        rw [nd_of_lt hkd]
      obtain ⟨⟨vv, l0, h0⟩, hnd⟩ : ∃ x, nd ds k = x := ⟨_, rfl⟩
      simp only [hnd] at TK p1 p2 p3
      clear hnd
      generalize hzz : (ds.take k).map (·.1) = zk at *
      have NB : Hid (((wr.alloc (.cells #[.int .i64 vv, .int .i64 l0, .int .i64 h0] 77)).alloc (.cells #[.int .i64 vv] 3)).heap[wr.heap.size + 1]? = some (.cells #[.int .i64 vv] 3 (0, 0))) := by
        have := heap_alloc_new (wr.alloc (.cells #[.int .i64 vv, .int .i64 l0, .int .i64 h0] 77)) (.cells #[.int .i64 vv] 3)
        show _ = _
        simpa using this
      go_wp2_with (at_builtin; refine wpList_append_lies _ rfl _ _ 53 rfl w1.heap.size 3 i0 (.int .i64 0) 1 8 Try.underlying53 hi0 hz0 hz1 hz2 rfl (by omega) (.slice la k lc) k (zk.map (Value.int .i64)) rfl ((RW.out.alloc _).alloc _) ⟨wr.heap.size + 1, 0, none⟩ 1 1 [.int .i64 vv] rfl rfl (World.news_of_block (cs := #[.int .i64 vv]) (t := 3) (fr := (0, 0)) NB.out) (by simp [Value.oneCell']) (by omega) (by unfold maxLen; omega) (by omega) (by simp; omega) (wr.heap.size + 2) (by simp) ?_; intro g4 cap4 w4 hown4 hgrow4 hat4 hlt4; have OW := Lib.hid hown4; have GR := Lib.hid hgrow4; clear hown4 hgrow4 hat4 hlt4)
      have ow : Hid (∀ x, (Value.slice la k lc).ownBlock = some x → w1.heap.size ≤ x) := fun x hx => (RW.out.lt x hx).1
      have B4 : Hid (Below w1.heap.size w1 w4) := ⟨GR.out.os.trans BL.out.os, GR.out.tape.trans BL.out.tape, GR.out.output.trans BL.out.output, by have := GR.out.size; simp at this; omega, fun b hb => by
        rw [GR.out.block b (by simp; omega) (fun e => by have := ow.out b e.symm; omega), Below.heap_alloc _ _ b (by simp; omega), Below.heap_alloc wr _ b (by omega)]
        exact BL.out.block b hb⟩
      go_roundw
      case rel => exact ⟨k + 1, some ⟨g4, 0, none⟩, cap4, by omega, by go_num, rfl, by
        have := OW.out
        rw [TK.out, List.map_append]
        exact this, B4.out⟩
      case measure => simp [intOf]; omega
    · obtain rfl : k = n := by omega
      have i1 : ¬ ((k : Int) < (k : Int)) := by omega
      have RB : Hid (wr.ownsRow w1.heap.size 3 1 (.slice la k lc) k ((ds.map (·.1)).map (Value.int .i64))) := by
        have := RW.out
        rw [List.take_of_length_le (by rw [HN.out]; exact Nat.le_refl _)] at this
        exact this
      go_wp2_with fail
      refine (sort_own RB.out (by omega) bls).mono ?_
      rintro e w4 ⟨rfl, ow4, bl4⟩
      have CP := Lib.hid (compact_own ow4 (by omega) (Nat.le_trans bls bl4.size))
      have B4 := Lib.hid (BL.out.trans bl4)
      clear ow4 bl4
      rw [HC.out] at CP
      go_wp2_with fail
      refine CP.out.mono ?_
      clear CP
      rintro e w5 ⟨rfl, ia5, bl5⟩
      have I5 := Lib.hid ia5; clear ia5
      have B5 := Lib.hid (B4.out.trans bl5); clear bl5
      go_wp2_with fail
      go_ret
      exact ⟨la, lc, rfl, I5.out, Below.over B1.out B1.out.size B5.out⟩

theorem chk_vars {ds : List Nd} {r : Int} (h : chk ds r = 0) : ∀ x ∈ ds, 0 ≤ x.1 ∧ x.1 < 16 := by
  obtain ⟨_, o, _⟩ := chk_zero h
  intro x hx
  obtain ⟨k, hk, rfl⟩ := List.getElem_of_mem hx
  obtain ⟨o1, o2, _⟩ := o k hk
  rw [nd_of_lt hk] at o1 o2
  exact ⟨o1, o2⟩

/-- What Support returns. -/
noncomputable def supE (ds : List Nd) (r : Int) : List Int := if chk ds r = 0 then sup ds else []
def SePost (w : World) (l : List Int) (er : Int) (e : Ending) (w' : World) : Prop := ∃ a cap, e = .returned (.tuple #[.slice a l.length cap, .int .i64 er]) ∧ IAt w' l a ∧ Below w.heap.size w w'

set_option maxRecDepth 100000 in
set_option maxHeartbeats 1000000 in
theorem Support_any {w : World} {ds : List Nd} {a : Option Addr} {n cap : Nat} {root : Int} (hd : DAt w ds a) (hn : ds.length = n) (hl : n ≤ 9223372036854775807) :
    Calls Try.prog 30 #[.agg #[.slice a n cap, .int .i64 root]] w (SePost w (supE ds root) (chk ds root)) := by
  have B1 : Hid (Below w.heap.size w (w.alloc (.cells #[.slice a n cap, .int .i64 root] 27))) := (Below.refl _ _).alloc (Nat.le_refl _) _
  have S1 : Hid ((w.alloc (.cells #[.slice a n cap, .int .i64 root] 27)).heap.size = w.heap.size + 1) := by show _ = _; simp
  have X : Hid ((w.alloc (.cells #[.slice a n cap, .int .i64 root] 27)).heap[w.heap.size]? = some (.cells #[.slice a n cap, .int .i64 root] 27 (0, 0))) := heap_alloc_new w _
  have CK := Lib.hid (check_any (cap := cap) (root := root) (hd.below B1.out) hn hl)
  go_enter Try.func30, Try.ntmps30
  go_wp2_with fail
  generalize w.alloc (.cells #[.slice a n cap, .int .i64 root] 27) = w1 at *
  refine CK.out.mono ?_
  clear CK
  rintro e w2 ⟨rfl, bl2⟩
  have B2 := Lib.hid (Below.over B1.out B1.out.size bl2)
  have P2 := Lib.hid ((bl2.block w.heap.size (by rw [S1.out]; omega)).trans X.out)
  clear bl2
  obtain ⟨y0, y1, _⟩ := cells2 P2.out
  by_cases hc : chk ds root = 0
  · have SU := Lib.hid (support_any (cap := cap) (root := root) (hd.below B2.out) hn (by obtain ⟨q1, _⟩ := chk_zero hc; omega) (chk_vars hc))
    have e1 : Hid (supE ds root = sup ds) := by show _ = _; unfold supE; rw [if_pos hc]
    have HC0 := Lib.hid hc
    rw [hc]
    clear hc hd hn
    go_wp2_with fail
    refine SU.out.mono ?_
    clear y0 y1 SU
    rintro e w3 ⟨la, lc, rfl, ia, bl3⟩
    have I3 := Lib.hid ia; clear ia
    have B3 := Lib.hid (Below.over B2.out B2.out.size bl3); clear bl3
    go_wp2_with fail
    go_ret2
    exact ⟨la, lc, by rw [e1.out, HC0.out]; rfl, by rw [e1.out]; exact I3.out, B3.out⟩
  · have e1 : Hid (supE ds root = []) := by show _ = _; unfold supE; rw [if_neg hc]
    have hne : (chk ds root != 0) = true := by rw [bne_iff_ne]; exact hc
    clear hd hn
    go_wp2_with fail
    go_ret2
    exact ⟨none, 0, by rw [e1.out]; rfl, by rw [e1.out]; exact iAt_nil _ _, B2.out⟩

/-- The variables below v that nodes test. -/
def supN (ds : List Nd) (v : Nat) : List Int := ((List.range v).filter fun (v : Nat) => decide ((v : Int) ∈ ds.map (·.1))).map Int.ofNat
theorem supN_len (ds : List Nd) (v : Nat) : (supN ds v).length ≤ v := by
  unfold supN
  rw [List.length_map]
  exact Nat.le_trans (List.length_filter_le _ _) (by simp)
theorem supN_yes {ds : List Nd} {v k : Nat} (hk : k < ds.length) (h : (nd ds k).1 = v) : supN ds (v + 1) = supN ds v ++ [(v : Int)] := by
  have : (v : Int) ∈ ds.map (·.1) := List.mem_map.2 ⟨nd ds k, by rw [nd_of_lt hk]; exact List.getElem_mem hk, h⟩
  unfold supN
  rw [List.range_succ, List.filter_append, List.map_append, List.filter_cons_of_pos (by simpa using this)]
  rfl
theorem supN_no {ds : List Nd} {v : Nat} (h : ∀ k : Nat, k < ds.length → (nd ds k).1 ≠ v) : supN ds (v + 1) = supN ds v := by
  have : ¬ (v : Int) ∈ ds.map (·.1) := by
    intro hx
    obtain ⟨x, hx, e⟩ := List.mem_map.1 hx
    obtain ⟨k, hk, rfl⟩ := List.getElem_of_mem hx
    exact h k hk (by rw [nd_of_lt hk]; exact e)
  unfold supN
  rw [List.range_succ, List.filter_append, List.map_append, List.filter_cons_of_neg (by simpa using this)]
  simp

def SpL (ds : List Nd) (w : World) (ov iv : Value) (wr : World) : Prop :=
  ∃ (v : Nat) (la : Option Addr) (lc m : Nat), v ≤ 16 ∧ m ≤ v ∧ iv = .int .i64 v ∧ ov = .slice la m lc ∧ wr.ownsRow w.heap.size 3 1 ov m ((supN ds v).map (Value.int .i64)) ∧ Below w.heap.size w wr

def SqL (ds : List Nd) (n v : Nat) (w : World) (iv : Value) (wr : World) : Prop :=
  ∃ k : Nat, k ≤ n ∧ iv = .int .i64 k ∧ (∀ j : Nat, j < k → (nd ds j).1 ≠ v) ∧ Qt w wr

set_option maxRecDepth 100000 in
set_option maxHeartbeats 1000000 in
theorem supports_any {w : World} {ds : List Nd} {a : Option Addr} {n cap : Nat} {root : Int} (hd : DAt w ds a) (hn : ds.length = n) (hl : n ≤ 2000) :
    Calls Try.prog 33 #[.agg #[.slice a n cap, .int .i64 root]] w (IePost w (sup ds)) := by
  have HD := Lib.hid hd; clear hd
  have HN := Lib.hid hn; clear hn
  have B1 : Hid (Below w.heap.size w (w.alloc (.cells #[.slice a n cap, .int .i64 root] 27))) := (Below.refl _ _).alloc (Nat.le_refl _) _
  have S1 : Hid ((w.alloc (.cells #[.slice a n cap, .int .i64 root] 27)).heap.size = w.heap.size + 1) := by show _ = _; simp
  have X : Hid ((w.alloc (.cells #[.slice a n cap, .int .i64 root] 27)).heap[w.heap.size]? = some (.cells #[.slice a n cap, .int .i64 root] 27 (0, 0))) := heap_alloc_new w _
  obtain ⟨i0, hi0, hz0, hz1, hz2⟩ := info_parts info3
  go_enter Try.func33, Try.ntmps33
  go_wp2_with fail
  generalize w.alloc (.cells #[.slice a n cap, .int .i64 root] 27) = w1 at *
  go_loopw [3, 4] (fun ov iv wr => SpL ds w1 ov iv wr) (fun _ iv _ => 16 - (intOf iv).toNat)
  case atStart => exact ⟨0, none, 0, 0, by omega, by omega, rfl, rfl, ⟨by simp [supN], Or.inl ⟨rfl, rfl⟩⟩, Below.refl _ _⟩
  case round =>
    obtain ⟨v, la, lc, m, hv, hm, rfl, rfl, row, bl⟩ := hrel
    have RW := Lib.hid row; clear row
    have BL := Lib.hid bl
    have bls : w1.heap.size ≤ wr.heap.size := bl.size
    clear bl
    by_cases hv16 : v < 16
    · have i1 : (v : Int) < 16 := by omega
      go_wp2_with fail
      obtain ⟨wo, rfl⟩ : ∃ wo : World, wo = wr := ⟨_, rfl⟩
      go_loopw [3, 5] (fun ov iv wi => ov = .slice la m lc ∧ SqL ds n v wo iv wi) (fun _ iv _ => n - (intOf iv).toNat)
      case atStart => exact ⟨rfl, 0, by omega, rfl, fun j hj => by omega, Qt.refl _⟩
      case round =>
        obtain ⟨rfl, k, hk, rfl, hno, hq⟩ := hrel
        have NO := Lib.hid hno; clear hno
        have HQ := Lib.hid hq; clear hq
        have bw : Hid (Below w1.heap.size w1 wr) := BL.out.trans (HQ.out.below.mono bls)
        have ws : w1.heap.size ≤ wr.heap.size := bw.out.size
        have P1 := Lib.hid ((bw.out.block w.heap.size (by rw [S1.out]; omega)).trans X.out)
        have BR : Hid (Below w.heap.size w wr) := Below.over B1.out B1.out.size bw.out
        obtain ⟨y0, y1, _⟩ := cells2 P1.out
        have RR : Hid (wr.ownsRow w1.heap.size 3 1 (.slice la m lc) m ((supN ds v).map (Value.int .i64))) := by
          obtain ⟨q, e⟩ := HQ.out
          rw [e]; exact RW.out
        by_cases hkn : k < n
        · have j1 : (k : Int) < (n : Int) := by omega
          have hkd : k < ds.length := by rw [HN.out]; exact hkn
          obtain ⟨bd, od, rfl, dd⟩ := HD.out (by intro e; rw [e] at hkd; simp at hkd)
          obtain ⟨p1, p2, p3⟩ := kid_cells BR.out (dd k hkd)
          clear dd p2 p3
          by_cases hvk : (nd ds k).1 = v
          · have YS := Lib.hid (supN_yes hkd hvk)
            rw [hvk] at p1
            go_upto_region 9 with fail
            go_wp2_with (at_builtin; refine wpList_append_lies _ rfl _ _ 53 rfl w1.heap.size 3 i0 (.int .i64 0) 1 8 Try.underlying53 hi0 hz0 hz1 hz2 rfl (by omega) (.slice la m lc) m ((supN ds v).map (Value.int .i64)) rfl (RR.out.alloc _) ⟨wr.heap.size, 0, none⟩ 1 1 [.int .i64 v] rfl rfl (World.news_of_block (cs := #[.int .i64 v]) (t := 3) (fr := (0, 0)) (heap_alloc_new wr _)) (by simp [Value.oneCell']) (by omega) (by unfold maxLen; omega) (by omega) (by simp; omega) (wr.heap.size + 1) (by simp) ?_; intro g4 cap4 w4 hown4 hgrow4 hat4 hlt4; have OW := Lib.hid hown4; have GR := Lib.hid hgrow4; clear hown4 hgrow4 hat4 hlt4)
            have ow : Hid (∀ x, (Value.slice la m lc).ownBlock = some x → w1.heap.size ≤ x) := fun x hx => (RW.out.lt x hx).1
            have B4 : Hid (Below w1.heap.size w1 w4) := ⟨GR.out.os.trans bw.out.os, GR.out.tape.trans bw.out.tape, GR.out.output.trans bw.out.output, by have := GR.out.size; simp at this; omega, fun b hb => by
              rw [GR.out.block b (by simp; omega) (fun e => by have := ow.out b e.symm; omega), Below.heap_alloc wr _ b (by omega)]
              exact bw.out.block b hb⟩
            go_roundw
            case rel => exact ⟨v + 1, some ⟨g4, 0, none⟩, cap4, m + 1, by omega, by omega, by go_num, rfl, by
              have := OW.out
              rw [YS.out, List.map_append]
              exact this, B4.out⟩
            case measure => simp [intOf]; omega
          · have NO2 : Hid (∀ j : Nat, j < k + 1 → (nd ds j).1 ≠ v) := fun j hj => by
              by_cases e : j = k
              · subst e; exact hvk
              · exact NO.out j (by omega)
            have hb : ((nd ds k).1 == (v : Int)) = false := by simpa using hvk
            generalize (nd ds k).1 = vk at *
            go_wp2_with fail
            go_roundw
            case rel => exact ⟨rfl, k + 1, by omega, by go_num, NO2.out, HQ.out⟩
            case measure => simp [intOf]; omega
        · obtain rfl : k = n := by omega
          have j1 : ¬ ((k : Int) < (k : Int)) := by omega
          have NS := Lib.hid (supN_no (ds := ds) (v := v) (fun j hj => NO.out j (by rw [HN.out] at hj; exact hj)))
          go_wp2_with fail
          go_roundw
          case rel => exact ⟨v + 1, la, lc, m, by omega, by omega, by go_num, rfl, by rw [NS.out]; exact RR.out, bw.out⟩
          case measure => simp [intOf]; omega
    · obtain rfl : v = 16 := by omega
      go_wp2_with fail
      go_ret
      have e1 : (supN ds 16).length = m := by have := RW.out.1; simpa using this
      refine ⟨la, lc, ?_, ?_, Below.over B1.out B1.out.size BL.out⟩
      · show _ = Ending.returned (.slice la (supN ds 16).length lc)
        rw [e1]; rfl
      · show IAt wr (supN ds 16) la
        intro hne
        rcases RW.out.2 with ⟨_, h2⟩ | ⟨g5, cap5, cur, hv5, hg5, hc5, _⟩
        · exact absurd (List.length_eq_zero_iff.1 (e1.trans h2)) hne
        · have hr5 := RW.out
          rw [hv5] at hr5
          injection hv5 with e2 e3 e4
          refine ⟨g5, 0, e2, fun j hj => ?_⟩
          have c5 := hr5.cellAt j (by omega)
          rw [Nat.zero_add, c5, List.getElem?_map, List.getElem?_eq_getElem hj, List.getD_eq_getElem?_getD, List.getElem?_eq_getElem hj]
          rfl

end Go.Proofs.Ythhogbligfmpdaa
