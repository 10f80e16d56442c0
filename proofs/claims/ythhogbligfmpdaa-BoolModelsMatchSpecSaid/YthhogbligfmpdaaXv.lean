/- Models. -/
import Derived.Test.YthhogbligfmpdaaXu
set_option linter.unusedVariables false
set_option linter.unusedSimpArgs false
namespace Go.Proofs.Ythhogbligfmpdaa
open Go.RowKit Bd

open Classical in
noncomputable def mErr (ds : List Nd) (r vars most : Int) : Int := if vErr ds r vars ≠ 0 then vErr ds r vars else if most < 0 ∨ 2000 < most then 1 else 0
noncomputable def mList (ds : List Nd) (r vars most : Int) : List (List Int) := if mErr ds r vars most ≠ 0 then [] else (mdl ds vars.toNat vars.toNat r []).take most.toNat

/-- Lists and an error. -/
def LePost (w : World) (ls : List (List Int)) (er : Int) (e : Ending) (w' : World) : Prop :=
  ∃ a cap, e = .returned (.tuple #[.slice a ls.length cap, .int .i64 er]) ∧ LAt w' ls a ∧ Below w.heap.size w w'

theorem le_bad {w w' : World} {ds : List Nd} {r vars most er : Int} (he : mErr ds r vars most = er) (hne : er ≠ 0) (hb : Below w.heap.size w w') : LePost w (mList ds r vars most) (mErr ds r vars most) (.returned (.tuple #[.slice none 0 0, .int .i64 er])) w' := by
  have : mList ds r vars most = [] := by unfold mList; rw [he, if_pos hne]
  rw [this, he]
  exact ⟨none, 0, rfl, lAt_nil _ _, hb⟩

/-- The start of the closure's memory. -/
theorem m_start {w w2 w4 W : World} {ds : List Nd} {aa : Option Addr} {n ca vars most : Nat} {root : Int} (hd : DAt w ds aa) (hb : Below w.heap.size w w2) (hs : w.heap.size + 3 ≤ w2.heap.size)
    (b1 : w2.heap[w.heap.size]? = some (.cells #[.slice aa n ca, .int .i64 root] 27 (0, 0))) (b2 : w2.heap[w.heap.size + 1]? = some (.cells #[.int .i64 vars] 3 (0, 0))) (b3 : w2.heap[w.heap.size + 1 + 1]? = some (.cells #[.int .i64 most] 3 (0, 0)))
    (ho : w4.ownsRow 0 3 1 (.slice (some ⟨w2.heap.size + 1, 0, none⟩) vars vars) vars (madeCells (Value.int .i64 0).cells (vars * 1)).toList) (hg : (w2.alloc (.cells #[.slice none 0 0] 44)).grownBy w4 none)
    (hW : W = (w4.alloc (.cells #[.slice (some ⟨w2.heap.size + 1, 0, none⟩) vars vars] 53)).alloc (.cells #[.func (.func 59) #[] #[.pointer (some ⟨w2.heap.size, 0, none⟩), .pointer (some ⟨w.heap.size + 1 + 1, 0, none⟩), .pointer (some ⟨w.heap.size + 1, 0, none⟩), .pointer (some ⟨w4.heap.size, 0, none⟩), .pointer (some ⟨w.heap.size, 0, none⟩), .pointer (some ⟨w4.heap.size + 1, 0, none⟩)]] 82)) :
    ∃ B : MB, B.ba = w.heap.size ∧ B.bv = w.heap.size + 1 ∧ B.bm = w.heap.size + 1 + 1 ∧ B.bo = w2.heap.size ∧ B.bn = w4.heap.size ∧ B.bw = w4.heap.size + 1 ∧ MS B ds aa n ca root vars most W (.slice none 0 0) [] (List.replicate vars 0) ∧ Below w.heap.size w W ∧ B.base = w.heap.size ∧ w.heap.size + 3 ≤ B.bo ∧ B.bo < B.g := by
  have hz : w2.heap.size + 1 < w4.heap.size := (ho.lt _ rfl).2
  have k4 : ∀ b, b < w2.heap.size + 1 → w4.heap[b]? = (w2.alloc (.cells #[.slice none 0 0] 44)).heap[b]? := fun b h => hg.block b (by simp; omega) (by simp)
  obtain ⟨n1, n2, n3, n4⟩ := two_new w4 (.cells #[.slice (some ⟨w2.heap.size + 1, 0, none⟩) vars vars] 53) _ W hW
  have kW : ∀ b, b < w4.heap.size → W.heap[b]? = w4.heap[b]? := fun b h => n4.block b h
  have kk : ∀ b, b < w2.heap.size → W.heap[b]? = w2.heap[b]? := fun b h => (kW b (by omega)).trans ((k4 b (by omega)).trans (Below.heap_alloc w2 _ b h))
  have bW : Below w.heap.size w W := ⟨n4.os.trans (hg.os.trans hb.os), n4.tape.trans (hg.tape.trans hb.tape), n4.output.trans (hg.output.trans hb.output), by omega, fun b h => (kk b (by omega)).trans (hb.block b h)⟩
  have row : W.ownsRow 0 3 1 (.slice (some ⟨w2.heap.size + 1, 0, none⟩) vars vars) vars (List.replicate vars (.int .i64 0)) := by
    have h1 := (ho.alloc (.cells #[.slice (some ⟨w2.heap.size + 1, 0, none⟩) vars vars] 53)).alloc (.cells #[.func (.func 59) #[] #[.pointer (some ⟨w2.heap.size, 0, none⟩), .pointer (some ⟨w.heap.size + 1 + 1, 0, none⟩), .pointer (some ⟨w.heap.size + 1, 0, none⟩), .pointer (some ⟨w4.heap.size, 0, none⟩), .pointer (some ⟨w.heap.size, 0, none⟩), .pointer (some ⟨w4.heap.size + 1, 0, none⟩)]] 82)
    rw [← hW] at h1
    have e : (madeCells (Value.int .i64 0).cells (vars * 1)).toList = List.replicate vars (.int .i64 0) := by
      rw [Nat.mul_one]; exact toList_madeCells_one _ _
    rw [e] at h1
    exact h1
  refine ⟨⟨w.heap.size, w.heap.size + 1, w.heap.size + 1 + 1, w2.heap.size, w2.heap.size + 1, w4.heap.size, w4.heap.size + 1, w4.heap.size + 2, w.heap.size, by omega, by omega, by omega, by omega, by omega, by omega, by omega, by omega⟩, rfl, rfl, rfl, rfl, rfl, rfl, ?_, bW, rfl, hs, by show w2.heap.size < w2.heap.size + 1; omega⟩
  refine ⟨?_, (kk _ (by show w.heap.size + 1 + 1 < _; omega)).trans b3, (kk _ (by show w.heap.size + 1 < _; omega)).trans b2, n1, (kk _ (by show w.heap.size < _; omega)).trans b1, n2, by simp, fun j hj => ?_, fun j => row.frozenAt j, ⟨[], LLs.nil _ _⟩, hd.below bW, fun b o hne e => ?_, by show w4.heap.size + 2 ≤ _; omega⟩
  · show W.heap[w2.heap.size]? = _
    rw [kW _ (by omega), k4 _ (by omega)]
    exact heap_alloc_new w2 _
  · rw [row.cellAt j (by omega)]
    simp [hj]
  · obtain ⟨b', o', e', d'⟩ := hd hne
    have hz : b' < w.heap.size := lt_of_cell (d' 0 (List.length_pos_iff.2 hne)).1
    have e2 := e.symm.trans e'
    injection e2 with e2
    injection e2 with e2
    show b < w.heap.size
    omega

set_option maxRecDepth 100000 in
set_option maxHeartbeats 1000000 in
theorem models_any {w : World} {ds : List Nd} {a : Option Addr} {n cap : Nat} {root vars most : Int} (hd : DAt w ds a) (hn : ds.length = n) (hl : n ≤ 9223372036854775807) :
    Calls Try.prog 25 #[.agg #[.slice a n cap, .int .i64 root], .int .i64 vars, .int .i64 most] w (LePost w (mList ds root vars most) (mErr ds root vars most)) := by
  obtain ⟨x1, x2, x3, x5, x6⟩ := three_new w (.cells #[.slice a n cap, .int .i64 root] 27) (.cells #[.int .i64 vars] 3) (.cells #[.int .i64 most] 3) _ rfl
  have X1 := Lib.hid x1; clear x1
  have X2 := Lib.hid x2; clear x2
  have X3 := Lib.hid x3; clear x3
  have X5 := Lib.hid x5; clear x5
  have X6 := Lib.hid x6; clear x6
  have HD := Lib.hid hd; clear hd
  have C := Lib.hid (vf_any (cap := cap) (root := root) (vars := vars) (HD.out.below X6.out) hn hl)
  have HN := Lib.hid hn; clear hn
  obtain ⟨i0, hi0, hz0, hz1, hz2⟩ := info_parts info3
  go_enter Try.func25, Try.ntmps25
  go_wp2_with fail
  generalize ((w.alloc (.cells #[.slice a n cap, .int .i64 root] 27)).alloc (.cells #[.int .i64 vars] 3)).alloc (.cells #[.int .i64 most] 3) = w1 at *
  refine C.out.mono ?_
  clear C
  rintro e w2 ⟨rfl, hb⟩
  have B2 := Lib.hid (Below.over X6.out X6.out.size hb)
  have b1 := Lib.hid ((hb.block _ (by rw [X5.out]; omega)).trans X1.out)
  have b2 := Lib.hid ((hb.block _ (by rw [X5.out]; omega)).trans X2.out)
  have b3 := Lib.hid ((hb.block _ (by rw [X5.out]; omega)).trans X3.out)
  have hsz2 : w.heap.size + 3 ≤ w2.heap.size := by have := hb.size; rw [X5.out] at this; exact this
  clear hb X1 X2 X3 X5 X6
  obtain ⟨y0, y1, _⟩ := cells2 b1.out
  have v0 := (one_cell b2.out).1
  have m0 := (one_cell b3.out).1
  obtain ⟨ve, hve⟩ : ∃ ve, vErr ds root vars = ve := ⟨_, rfl⟩
  rw [hve]
  have HVE := Lib.hid hve; clear hve
  by_cases hc : ve = 0
  · subst hc
    by_cases q1 : most < 0
    · have E : Hid (mErr ds root vars most = 1) := by show _ = _; unfold mErr; rw [HVE.out]; simp [q1]
      go_wp2_with fail
      go_ret2
      exact le_bad E.out (by omega) B2.out
    · by_cases q2 : 2000 < most
      · have E : Hid (mErr ds root vars most = 1) := by show _ = _; unfold mErr; rw [HVE.out]; simp [q2]
        go_wp2_with fail
        go_ret2
        exact le_bad E.out (by omega) B2.out
      · have E : Hid (mErr ds root vars most = 0) := by show _ = _; unfold mErr; rw [HVE.out, if_neg (by simp), if_neg (by omega)]
        go_upto_region 6 with fail
        clear m0
        obtain ⟨v1, v2, v3, v4⟩ := vErr_ok HVE.out
        obtain ⟨V, rfl⟩ := Int.eq_ofNat_of_zero_le v2
        obtain ⟨mo, rfl⟩ := Int.eq_ofNat_of_zero_le (by omega : 0 ≤ most)
        have OVR : Hid (Over ds V) := v4
        obtain ⟨c1, c2, c3, _, _⟩ := chk_zero v1
        have OD := Lib.hid c2
        have RF := Lib.hid c3
        have hn2 : n ≤ 2000 := by rw [HN.out] at c1; exact c1
        clear v4 c1 c2 c3 v1
        have h16 : V ≤ 16 := by omega
        have hm2 : mo ≤ 2000 := by omega
        have S3 : Hid ((w2.alloc (.cells #[.slice none 0 0] 44)).heap.size = w2.heap.size + 1) := by show _ = _; simp
        have lt0 : w.heap.size < w2.heap.size := by omega
        have lt1 : w.heap.size + 1 < w2.heap.size := by omega
        have lt2 : w.heap.size + 1 + 1 < w2.heap.size := by omega
        go_upto_region 10 with (at_make; refine wpList_make_full _ rfl _ _ 53 rfl 0 3 i0 (.int .i64 0) 1 Try.underlying53 hi0 hz0 hz1 .i64 .i64 (V : Int) (V : Int) V rfl rfl rfl rfl (by rw [hz2]; omega) (by unfold maxLen; omega) (Nat.zero_le _) ?_; intro w4 hown4 hg4; have OW := Lib.hid hown4; have GR := Lib.hid hg4; clear hown4 hg4)
        have OW1 : Hid (w4.ownsRow 0 3 1 (.slice (some ⟨w2.heap.size + 1, 0, none⟩) V V) V (madeCells (Value.int .i64 0).cells (V * 1)).toList) := by
          have := OW.out
          rw [S3.out] at this
          exact this
        obtain ⟨B, e1, e2, e3, e4, e5, e6, ms, bW, eb, hbo, hbg⟩ := m_start (ca := cap) (most := mo) HD.out B2.out hsz2 b1.out b2.out b3.out OW1.out GR.out rfl
        have CM := m_any OD.out OVR.out h16 hm2 HN.out hn2 V 0 root _ _ _ _ (by omega) RF.out (by have := (OD.out.top_lt RF.out).1; omega) (Nat.zero_le _) ms
        rw [List.nil_append, List.take_zero, show ((0 : Nat) : Int) = 0 from rfl] at CM
        have d0 := (cells2 ms.cda).2.1
        rw [e1] at d0
        have BB : Hid (∀ (W' : World), MK B ((w4.alloc (.cells #[.slice (some ⟨w2.heap.size + 1, 0, none⟩) V V] 53)).alloc (.cells #[.func (.func 59) #[] #[.pointer (some ⟨w2.heap.size, 0, none⟩), .pointer (some ⟨w.heap.size + 1 + 1, 0, none⟩), .pointer (some ⟨w.heap.size + 1, 0, none⟩), .pointer (some ⟨w4.heap.size, 0, none⟩), .pointer (some ⟨w.heap.size, 0, none⟩), .pointer (some ⟨w4.heap.size + 1, 0, none⟩)]] 82)) W' → Below w.heap.size w W') := by
          intro W' mk
          have q0 := B.h0; have q1 := B.h1; have q2 := B.h2; have q3 := B.h3; have q4 := B.h4; have q5 := B.h5; have q6 := B.h6; have q7 := B.h7
          exact ⟨mk.os.trans bW.os, mk.tape.trans bW.tape, mk.output.trans bW.output, Nat.le_trans bW.size mk.size, fun b hb => (mk.keep b (by omega) (by omega) (by omega)).trans (bW.block b hb)⟩
        have f0 := (one_cell ms.cw).1
        unfold MB.caps at f0
        rw [e1, e2, e3, e4, e5, e6] at f0
        have E4 := Lib.hid e4
        rw [e1, e2, e3, e4, e5, e6] at CM
        have CMH := Lib.hid CM
        have ML : Hid (mList ds root V mo = (mdl ds V V root []).take mo) := by show _ = _; unfold mList; rw [if_neg (by rw [E.out]; simp), Int.toNat_natCast, Int.toNat_natCast]
        clear CM ms bW eb hbo hbg e1 e2 e3 e4 e5 e6 OW OW1 GR y0 y1 v0 q1 q2
        generalize (w4.alloc (.cells #[.slice (some ⟨w2.heap.size + 1, 0, none⟩) V V] 53)).alloc (.cells #[.func (.func 59) #[] #[.pointer (some ⟨w2.heap.size, 0, none⟩), .pointer (some ⟨w.heap.size + 1 + 1, 0, none⟩), .pointer (some ⟨w.heap.size + 1, 0, none⟩), .pointer (some ⟨w4.heap.size, 0, none⟩), .pointer (some ⟨w.heap.size, 0, none⟩), .pointer (some ⟨w4.heap.size + 1, 0, none⟩)]] 82) = W at *
        go_wp2_with fail
        refine CMH.out.mono ?_
        clear CMH d0 f0
        rintro e w5 ⟨ov5, nw5, rfl, ms5, _, mk5⟩
        have B5 := Lib.hid (BB.out w5 mk5)
        obtain ⟨a5, cap5, rfl⟩ := ms5.ovForm
        obtain ⟨vals, hvals⟩ := ms5.out
        have LA := Lib.hid hvals.lAt.1
        have z0 := (one_cell ms5.co).1
        rw [E4.out] at z0
        clear ms5 mk5 hvals BB
        generalize (mdl ds V V root []).take mo = LL at *
        go_wp2_with fail
        go_ret2
        rw [ML.out, E.out]
        exact ⟨a5, cap5, rfl, LA.out, B5.out⟩
  · have E : Hid (mErr ds root vars most = ve) := by show _ = _; unfold mErr; rw [HVE.out, if_pos hc]
    have hcb : (ve != 0) = true := by simpa using hc
    have HC := Lib.hid hc; clear hc
    go_wp2_with fail
    go_ret2
    exact le_bad E.out HC.out B2.out

end Go.Proofs.Ythhogbligfmpdaa
