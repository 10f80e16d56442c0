/- Build. -/
import Derived.Test.YthhogbligfmpdaaWo
set_option linter.unusedVariables false
set_option linter.unusedSimpArgs false
namespace Go.Proofs.Ythhogbligfmpdaa
open Go.RowKit Bd

def bldNodes (F : Fm) : List Nd := if boolErr F = 0 then outNodes (tl (evF F)) else []
def bldRoot (F : Fm) : Int := if boolErr F = 0 then outRoot (tl (evF F)) else 0
def bldErr (F : Fm) : Int := if boolErr F = 0 then outErr (tl (evF F)) else boolErr F

/-- A diagram and an error are handed back. -/
def DEPost (w : World) (O : List Nd) (r er : Int) (e : Ending) (w' : World) : Prop :=
  ∃ a cap, e = .returned (.tuple #[.agg #[.slice a O.length cap, .int .i64 r], .int .i64 er]) ∧ DNew w.heap.size w' O a ∧ Below w.heap.size w w'

theorem boolErr_zero {F : Fm} (h : boolErr F = 0) : cnt F ≤ 300 ∧ fault F = 0 := by
  unfold boolErr at h
  by_cases hc : 300 < cnt F
  · simp [hc] at h
  · rw [if_neg hc] at h
    exact ⟨by omega, h⟩

/-- Of two new blocks. -/
theorem two_new (w : World) (o1 o2 : Obj) : ∀ W, W = (w.alloc o1).alloc o2 → W.heap[w.heap.size]? = some o1 ∧ W.heap[w.heap.size + 1]? = some o2 ∧ W.heap.size = w.heap.size + 2 ∧ Below w.heap.size w W := by
  rintro W rfl
  have n1 := heap_alloc_new w o1
  have n2 := heap_alloc_new (w.alloc o1) o2
  simp only [World.size_alloc] at n2
  refine ⟨?_, n2, by simp, ((Below.refl _ _).alloc (Nat.le_refl _) _).alloc (by simp) _⟩
  rw [Below.heap_alloc _ _ _ (by simp)]; exact n1

theorem cells3 {w : World} {b : Nat} {x y z : Value} {t : TypeId} (h : w.heap[b]? = some (.cells #[x, y, z] t (0, 0))) : w.cell? ⟨b, 0, none⟩ = some x ∧ w.cell? ⟨b, 1, none⟩ = some y ∧ w.cell? ⟨b, 2, none⟩ = some z := by simp [World.cell?, h]
theorem cells2 {w : World} {b : Nat} {x y : Value} {t : TypeId} (h : w.heap[b]? = some (.cells #[x, y] t (0, 0))) : w.cell? ⟨b, 0, none⟩ = some x ∧ w.cell? ⟨b, 1, none⟩ = some y ∧ w.frozen? ⟨b, 0, none⟩ = false ∧ w.frozen? ⟨b, 1, none⟩ = false := by simp [World.cell?, World.frozen?, h]

set_option maxRecDepth 100000 in
set_option maxHeartbeats 1000000 in
theorem Build_any {w0 : World} {F : Fm} {a : Option Addr} (h : FmAt w0 F a) (cap : Nat) (w : World) (hB : Below w0.heap.size w0 w) :
    Calls Try.prog 13 #[.agg #[.int .i64 F.op, .int .i64 F.var, .slice a F.kids.length cap]] w (DEPost w (bldNodes F) (bldRoot F) (bldErr F)) := by
  have C1 := Lib.hid (checkBool_any h)
  have C2 := Lib.hid (build_any h)
  clear h
  obtain ⟨x1, x2, x3, x4⟩ := two_new w (.cells #[.int .i64 F.op, .int .i64 F.var, .slice a F.kids.length cap] 24) (.cells #[.slice none 0 0, .int .i64 0] 27) _ rfl
  have X1 := Lib.hid x1; clear x1
  have X2 := Lib.hid x2; clear x2
  have X3 := Lib.hid x3; clear x3
  have X4 := Lib.hid x4; clear x4
  by_cases hc : boolErr F = 0
  · have HC := Lib.hid hc
    have tb : (boolErr F != 0) = false := by simp [hc]
    clear hc
    go_enter Try.func13, Try.ntmps13
    go_wp2_with fail
    generalize (w.alloc (.cells #[.int .i64 F.op, .int .i64 F.var, .slice a F.kids.length cap] 24)).alloc (.cells #[.slice none 0 0, .int .i64 0] 27) = w1 at *
    refine (C1.out cap _ (Below.over hB hB.size X4.out)).mono ?_
    rintro e w2 ⟨rfl, hb2⟩
    have HB2 := Lib.hid hb2; clear hb2
    go_wp2_with fail
    refine (new_any w2).mono ?_
    rintro e w3 ⟨M, rfl, st3, hb3, hf3⟩
    have ST3 := Lib.hid st3; clear st3
    have HB3 := Lib.hid hb3; clear hb3
    have HF3 := Lib.hid hf3; clear hf3
    have B13 := Lib.hid (Below.over HB2.out HB2.out.size HB3.out)
    obtain ⟨y0, y1, y2⟩ := cells3 ((B13.out.block w.heap.size (by rw [X3.out]; omega)).trans X1.out)
    go_wp2_with fail
    have BZ := Lib.hid (boolErr_zero HC.out)
    have B03 := Lib.hid (Below.over (Below.over hB hB.size X4.out) (Nat.le_trans hB.size X4.out.size) B13.out)
    refine (C2.out cap w3 M [] [] B03.out (fun k hk => Nat.le_trans (Nat.le_trans (Nat.le_trans hB.size X4.out.size) HB2.out.size) (HF3.out k hk)) ST3.out BZ.out.2 (by have := BZ.out.1; simp; omega)).mono ?_
    rintro e w4 ⟨ns4, r4, dn4, v4, rfl, ⟨ms, em, lm⟩, rf4, tb4, st4, sp4⟩
    have hn4 : ns4.length ≤ 1000000000000 := by have := BZ.out.1; rw [em]; simp; omega
    have ST4 := Lib.hid st4; clear st4
    have SP4 := Lib.hid sp4; clear sp4
    have TB4 : Hid (Bd.tb ns4 16 r4 = tl (evF F)) := tb4
    clear tb4 em lm
    go_wp2_with fail
    refine (result_any ST4.out.mgr ST4.out.good hn4 rf4 TB4.out).mono ?_
    rintro e w5 ⟨a5, cap5, rfl, dn5, hb5⟩
    have DN5 := Lib.hid dn5; clear dn5
    have HB5 := Lib.hid hb5; clear hb5
    have B14 : Hid (Below w1.heap.size w1 w4) := by
      refine ⟨SP4.out.os.trans B13.out.os, SP4.out.tape.trans B13.out.tape, SP4.out.output.trans B13.out.output, Nat.le_trans B13.out.size SP4.out.size, fun k hk => ?_⟩
      rw [SP4.out.keep k (Nat.lt_of_lt_of_le hk B13.out.size) (fun e => absurd (HF3.out k e) (by have := HB2.out.size; omega))]
      exact B13.out.block k hk
    have B15 := Lib.hid (Below.over B14.out B14.out.size HB5.out)
    have hres := (B15.out.block (w.heap.size + 1) (by rw [X3.out]; omega)).trans X2.out
    obtain ⟨z0, z1, z2, z3⟩ := cells2 hres
    have e1 : Hid (bldNodes F = outNodes (tl (evF F)) ∧ bldRoot F = outRoot (tl (evF F)) ∧ bldErr F = outErr (tl (evF F))) := ⟨by simp [bldNodes, HC.out], by simp [bldRoot, HC.out], by simp [bldErr, HC.out]⟩
    generalize outNodes (tl (evF F)) = O at *
    generalize outRoot (tl (evF F)) = rt at *
    generalize outErr (tl (evF F)) = er at *
    have HRES := Lib.hid hres; clear hres
    have l5 := lt_of_cell z0
    go_wp2_with fail
    refine bodyPost_ret (v := .tuple #[.agg #[.slice a5 O.length cap5, .int .i64 rt], .int .i64 er]) (by simp [results, Try.results13, go_sem, z0, z1]) rfl ⟨a5, cap5, ?_, ?_, ?_⟩
    · rw [e1.out.1, e1.out.2.1, e1.out.2.2]
    · rw [e1.out.1]
      refine (DN5.out.of_blocks (w' := _) fun b hb hl => ?_).le (Nat.le_trans X4.out.size B14.out.size)
      have hs := B14.out.size
      rw [X3.out] at hs
      rw [Below.heap_setCell _ _ _ _ (by show b ≠ w.heap.size + 1; omega), Below.heap_setCell _ _ _ _ (by show b ≠ w.heap.size + 1; omega)]
    · exact ((Below.over X4.out X4.out.size B15.out).setCell (by show w.heap.size ≤ w.heap.size + 1; omega) _).setCell (by show w.heap.size ≤ w.heap.size + 1; omega) _
  · have tb : (boolErr F != 0) = true := by simp [hc]
    have e1 : Hid (bldNodes F = [] ∧ bldRoot F = 0 ∧ bldErr F = boolErr F) := ⟨by simp [bldNodes, hc], by simp [bldRoot, hc], by simp [bldErr, hc]⟩
    clear hc
    go_enter Try.func13, Try.ntmps13
    go_wp2_with fail
    generalize (w.alloc (.cells #[.int .i64 F.op, .int .i64 F.var, .slice a F.kids.length cap] 24)).alloc (.cells #[.slice none 0 0, .int .i64 0] 27) = w1 at *
    refine (C1.out cap _ (Below.over hB hB.size X4.out)).mono ?_
    rintro e w2 ⟨rfl, hb2⟩
    have HB2 := Lib.hid hb2; clear hb2
    have hres := (HB2.out.block (w.heap.size + 1) (by rw [X3.out]; omega)).trans X2.out
    obtain ⟨z0, z1, z2, z3⟩ := cells2 hres
    have HRES := Lib.hid hres; clear hres
    have l5 := lt_of_cell z0
    go_wp2_with fail
    refine bodyPost_ret (v := .tuple #[.agg #[.slice none 0 0, .int .i64 0], .int .i64 (boolErr F)]) (by simp [results, Try.results13, go_sem, z0, z1]) rfl ⟨none, 0, ?_, ?_, ?_⟩
    · rw [e1.out.1, e1.out.2.1, e1.out.2.2]; rfl
    · rw [e1.out.1]; exact dNew_nil _ _ _
    · exact ((Below.over X4.out X4.out.size HB2.out).setCell (by show w.heap.size ≤ w.heap.size + 1; omega) _).setCell (by show w.heap.size ≤ w.heap.size + 1; omega) _

end Go.Proofs.Ythhogbligfmpdaa
