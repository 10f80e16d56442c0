/- built. -/
import Derived.Test.YthhogbligfmpdaaXe
import Derived.Test.YthhogbligfmpdaaPf
set_option linter.unusedVariables false
set_option linter.unusedSimpArgs false
namespace Go.Proofs.Ythhogbligfmpdaa
open Go.RowKit Bd

theorem fmAt_leaf (w : World) (op var : Int) (a : Option Addr) : FmAt w (.mk op var []) a :=
  .mk op var [] a (fun _ => none) (fun _ => 0) (by simp) (fun h => absurd rfl h) (fun i hi => by simp at hi)

theorem fmAt_two {w : World} {F1 F2 : Fm} {a1 a2 : Option Addr} {b c1 c2 : Nat} {t : TypeId} {fr : Nat × Nat} (op var : Int) (h1 : FmAt w F1 a1) (h2 : FmAt w F2 a2)
    (hb : w.heap[b]? = some (.cells #[.int .i64 F1.op, .int .i64 F1.var, .slice a1 F1.kids.length c1, .int .i64 F2.op, .int .i64 F2.var, .slice a2 F2.kids.length c2] t fr)) : FmAt w (.mk op var [F1, F2]) (some ⟨b, 0, none⟩) := by
  refine .mk op var [F1, F2] _ (fun i => if i = 0 then a1 else a2) (fun i => if i = 0 then c1 else c2) (by simp) (fun _ => ⟨b, 0, rfl, fun i hi => ?_⟩) (fun i hi => ?_)
  · have : i = 0 ∨ i = 1 := by simp at hi; omega
    rcases this with rfl | rfl
    · simp [World.cell?, hb]
    · simp [World.cell?, hb]
  · have : i = 0 ∨ i = 1 := by simp at hi; omega
    rcases this with rfl | rfl
    · simpa using h1
    · simpa using h2

theorem three_new (w : World) (o1 o2 o3 : Obj) : ∀ W, W = ((w.alloc o1).alloc o2).alloc o3 → W.heap[w.heap.size]? = some o1 ∧ W.heap[w.heap.size + 1]? = some o2 ∧ W.heap[w.heap.size + 1 + 1]? = some o3 ∧ W.heap.size = w.heap.size + 3 ∧ Below w.heap.size w W := by
  rintro W rfl
  have n1 := heap_alloc_new w o1
  have n2 := heap_alloc_new (w.alloc o1) o2
  have n3 := heap_alloc_new ((w.alloc o1).alloc o2) o3
  simp only [World.size_alloc] at n2 n3
  refine ⟨?_, ?_, n3, by simp, (((Below.refl _ _).alloc (Nat.le_refl _) _).alloc (by simp) _).alloc (by simp; omega) _⟩
  · rw [Below.heap_alloc _ _ _ (by simp; omega), Below.heap_alloc _ _ _ (by simp)]; exact n1
  · rw [Below.heap_alloc _ _ _ (by simp)]; exact n2

theorem exF_bld : bldNodes exF = exN ∧ bldRoot exF = 1 ∧ bldErr exF = 0 := by
  have h0 : boolErr exF = 0 := by decide
  have hl : (cnNodes (tb exN 16 1)).length ≤ 2000 := by rw [exN_cn.2]; decide
  refine ⟨?_, ?_, ?_⟩
  · unfold bldNodes; rw [if_pos h0, exF_ev]; unfold outNodes; rw [if_pos hl, exN_cn.2]
  · unfold bldRoot; rw [if_pos h0, exF_ev]; unfold outRoot; rw [if_pos hl, exN_cn.1]
  · unfold bldErr; rw [if_pos h0, exF_ev]; unfold outErr; rw [if_pos hl]

theorem build_ex {W : World} {b : Nat} (hb : W.heap[b]? = some (.cells #[.int .i64 1, .int .i64 0, .slice none 0 0, .int .i64 1, .int .i64 2, .slice none 0 0] 24 (0, 0))) :
    Calls Try.prog 13 #[.agg #[.int .i64 4, .int .i64 0, .slice (some ⟨b, 0, none⟩) 2 2]] W (DEPost W exN 1 0) := by
  have h : FmAt W exF (some ⟨b, 0, none⟩) := fmAt_two (F1 := .mk 1 0 []) (F2 := .mk 1 2 []) (a1 := none) (a2 := none) 4 0 (fmAt_leaf _ _ _ _) (fmAt_leaf _ _ _ _) hb
  have := Build_any h 2 W (Below.refl _ _)
  rw [exF_bld.1, exF_bld.2.1, exF_bld.2.2] at this
  exact this

theorem exN_vErr : vErr exN 1 3 = 0 := by
  refine vErr_zero exN_chk ?_
  rintro (h | h | ⟨i, hi, h⟩)
  · omega
  · omega
  · have : i = 0 ∨ i = 1 := by simp [exN] at hi; omega
    rcases this with rfl | rfl <;> revert h <;> decide

theorem count_ex {W : World} {b cap : Nat} (hd : DAt W exN (some ⟨b, 0, none⟩)) :
    Calls Try.prog 24 #[.agg #[.slice (some ⟨b, 0, none⟩) 2 cap, .int .i64 1], .int .i64 3] W fun e w' => e = .returned (.tuple #[.int .i64 2, .int .i64 0]) ∧ Below W.heap.size W w' := by
  refine (count_any (cap := cap) (root := 1) (vars := 3) hd (show exN.length = 2 by decide) (by decide)).mono ?_
  rintro e w' ⟨c, rfl, _, h2, h3⟩
  have := exN_count (h2 exN_vErr)
  subst this
  rw [exN_vErr]
  exact ⟨rfl, h3⟩

set_option maxRecDepth 100000 in
set_option maxHeartbeats 1000000 in
theorem built_any (w : World) : Calls Try.prog 19 #[] w fun e w' => e = .returned (.bool true) ∧ Below w.heap.size w w' := by
  obtain ⟨x1, x2, x3, x4, x5⟩ := three_new w (.cells #[.int .i64 1, .int .i64 0, .slice none 0 0] 24) (.cells #[.int .i64 1, .int .i64 2, .slice none 0 0] 24) (.cells #[.int .i64 1, .int .i64 0, .slice none 0 0, .int .i64 1, .int .i64 2, .slice none 0 0] 24) _ rfl
  have C := Lib.hid (build_ex x3)
  have X4 := Lib.hid x4
  have X5 := Lib.hid x5
  clear x1 x2 x3 x4 x5
  go_enter Try.func19, Try.ntmps19
  go_wp2_with fail
  generalize ((w.alloc (.cells #[.int .i64 1, .int .i64 0, .slice none 0 0] 24)).alloc (.cells #[.int .i64 1, .int .i64 2, .slice none 0 0] 24)).alloc (.cells #[.int .i64 1, .int .i64 0, .slice none 0 0, .int .i64 1, .int .i64 2, .slice none 0 0] 24) = w1 at *
  refine C.out.mono ?_
  clear C
  rintro e w2 ⟨a, cap, rfl, dn, bl⟩
  have hlen : exN.length = 2 := rfl
  rw [hlen]
  clear hlen
  have DA := Lib.hid dn.dAt
  obtain ⟨b, hb, rfl, hc⟩ := dn (by decide)
  have c0 := hc 0 (by decide)
  have c1 := hc 1 (by decide)
  clear hc dn
  obtain ⟨p0, p1, p2⟩ := c0
  obtain ⟨q0, q1, q2⟩ := c1
  have e0 : nd exN (0 : Nat) = (2, -1, -2) := by decide
  have e1 : nd exN (1 : Nat) = (0, -1, 0) := by decide
  rw [e0] at p0 p1 p2
  rw [e1] at q0 q1 q2
  simp only [Nat.zero_mul, Nat.one_mul, Nat.zero_add, Nat.reduceAdd] at p0 p1 p2 q0 q1 q2
  clear e0 e1
  have BL := Lib.hid (Below.over X5.out X5.out.size bl)
  have hb2 : b < w2.heap.size := lt_of_cell p0
  clear bl
  have B3 : Hid (Below w2.heap.size w2 (w2.alloc (.cells #[.slice (some ⟨b, 0, none⟩) 2 cap, .int .i64 1] 27))) := (Below.refl _ _).alloc (Nat.le_refl _) _
  have CC := Lib.hid (count_ex (cap := cap) (DA.out.below B3.out))
  have N3 := Lib.hid (heap_alloc_new w2 (.cells #[.slice (some ⟨b, 0, none⟩) 2 cap, .int .i64 1] 27))
  have S3 : Hid ((w2.alloc (.cells #[.slice (some ⟨b, 0, none⟩) 2 cap, .int .i64 1] 27)).heap.size = w2.heap.size + 1) := by show _ = _; simp
  go_wp2_with fail
  generalize w2.alloc (.cells #[.slice (some ⟨b, 0, none⟩) 2 cap, .int .i64 1] 27) = w3 at *
  refine CC.out.mono ?_
  rintro e w4 ⟨rfl, b4⟩
  have B4 := Lib.hid (Below.over BL.out BL.out.size (Below.over B3.out B3.out.size b4))
  have f : Below w2.heap.size w2 w4 := Below.over B3.out B3.out.size b4
  have P0 := cell_later f p0
  have P1 := cell_later f p1
  have P2 := cell_later f p2
  have Q0 := cell_later f q0
  have Q1 := cell_later f q1
  have Q2 := cell_later f q2
  obtain ⟨y0, y1, _⟩ := cells2 ((b4.block _ (by rw [S3.out]; omega)).trans N3.out)
  clear f b4 p0 p1 p2 q0 q1 q2
  go_wp2_with fail
  go_ret
  exact ⟨rfl, B4.out⟩

end Go.Proofs.Ythhogbligfmpdaa
