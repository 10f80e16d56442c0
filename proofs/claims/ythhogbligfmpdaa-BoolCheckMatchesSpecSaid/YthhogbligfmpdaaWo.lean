/- The method result, and Build. -/
import Derived.Test.YthhogbligfmpdaaWn
set_option linter.unusedVariables false
set_option linter.unusedSimpArgs false
namespace Go.Proofs.Ythhogbligfmpdaa
open Go.RowKit Bd

/-- What comes of a function: its canonical diagram, or that it is too large. -/
def outNodes (T : List Bool) : List Nd := if (cnNodes T).length ≤ 2000 then cnNodes T else []
def outRoot (T : List Bool) : Int := if (cnNodes T).length ≤ 2000 then cnRoot T else 0
def outErr (T : List Bool) : Int := if (cnNodes T).length ≤ 2000 then 0 else 3

def ResPost (w : World) (T : List Bool) (e : Ending) (w' : World) : Prop :=
  ∃ a cap, e = .returned (.tuple #[.agg #[.slice a (outNodes T).length cap, .int .i64 (outRoot T)], .int .i64 (outErr T)]) ∧ DNew w.heap.size w' (outNodes T) a ∧ Below w.heap.size w w'

theorem DAt.below {w w' : World} {O : List Nd} {a : Option Addr} (h : DAt w O a) (hb : Below w.heap.size w w') : DAt w' O a := by
  intro hne
  obtain ⟨b, o, e, hc⟩ := h hne
  exact ⟨b, o, e, fun i hi => kid_cells hb (hc i hi)⟩

theorem dAt_nil (w : World) (a : Option Addr) : DAt w [] a := fun h => absurd rfl h

set_option maxRecDepth 100000 in
set_option maxHeartbeats 400000 in
theorem result_any {w : World} {M : ML} {ns : List Nd} {dn : List (Nd × Int)} (h : Mgr w M ns dn) (g : Bd.Good ns) (hns : ns.length ≤ 1000000000000) {r : Int} (hr : Ref ns r) {T : List Bool} (hT : tb ns 16 r = T) :
    Calls Try.prog 42 #[.pointer (some ⟨M.b, 0, none⟩), .int .i64 r] w (ResPost w T) := by
  have C : ∀ w', Mgr w' M ns dn → Calls Try.prog 63 #[.pointer (some ⟨M.b, 0, none⟩), .int .i64 r] w' (DiPost w' T) := by
    intro w' h'
    rw [← hT]
    exact diagram_any h' g hns hr
  have CC := Lib.hid C
  have H := Lib.hid h
  clear C h g hT
  have R0 : Hid (∀ w1, Below (w.alloc (.cells #[.slice none 0 0, .int .i64 0] 27)).heap.size (w.alloc (.cells #[.slice none 0 0, .int .i64 0] 27)) w1 → w1.heap[w.heap.size]? = some (.cells #[.slice none 0 0, .int .i64 0] 27 (0, 0)) ∧ Below w.heap.size w w1 ∧ w.heap.size < w1.heap.size) := by
    intro w1 hb
    have h1 := hb.block w.heap.size (by simp)
    have h2 := hb.size
    simp at h2
    exact ⟨h1.trans (heap_alloc_new w _), Below.over ((Below.refl _ _).alloc (Nat.le_refl _) _) (by simp) hb, by omega⟩
  by_cases hsz : (cnNodes T).length ≤ 2000
  · have e1 : Hid (outNodes T = cnNodes T ∧ outRoot T = cnRoot T ∧ outErr T = 0) := ⟨by simp [outNodes, hsz], by simp [outRoot, hsz], by simp [outErr, hsz]⟩
    go_enter Try.func42, Try.ntmps42
    go_wp2_with fail
    refine (CC.out _ (H.out.alloc _)).mono ?_
    rintro e w1 ⟨a, cap, rfl, da, hb⟩
    have DA := Lib.hid da; clear da
    generalize cnNodes T = O at *
    generalize cnRoot T = rt at *
    obtain ⟨r1, r2, r3⟩ := R0.out w1 hb
    have HB := Lib.hid hb; clear hb R0
    have b0 : w1.cell? ⟨w.heap.size, 0, none⟩ = some (.slice none 0 0) := by simp [World.cell?, r1]
    have b1 : w1.cell? ⟨w.heap.size, 1, none⟩ = some (.int .i64 0) := by simp [World.cell?, r1]
    have f0 : w1.frozen? ⟨w.heap.size, 0, none⟩ = false := by simp [World.frozen?, r1]
    have f1 : w1.frozen? ⟨w.heap.size, 1, none⟩ = false := by simp [World.frozen?, r1]
    have R1 := Lib.hid r1; clear r1
    have R2 := Lib.hid r2; clear r2
    go_wp2_with fail
    refine bodyPost_ret (v := .tuple #[.agg #[.slice a O.length cap, .int .i64 rt], .int .i64 0]) (by simp [results, Try.results42, go_sem, b0, b1, r3]) rfl ⟨a, cap, ?_, ?_, ?_⟩
    · rw [e1.out.1, e1.out.2.1, e1.out.2.2]
    · rw [e1.out.1]
      have := DA.out
      simp only [World.size_alloc] at this
      refine (this.of_blocks (w' := _) fun b hb hl => ?_).le (Nat.le_succ _)
      rw [Below.heap_alloc _ _ _ (by simp [World.setCell]; exact hl), Below.heap_setCell _ _ _ _ (by show b ≠ w.heap.size; omega), Below.heap_setCell _ _ _ _ (by show b ≠ w.heap.size; omega)]
    · exact ((R2.out.setCell (Nat.le_refl _) _).setCell (Nat.le_refl _) _).alloc (by simp [World.setCell]; omega) _
  · have e1 : Hid (outNodes T = [] ∧ outRoot T = 0 ∧ outErr T = 3) := ⟨by simp [outNodes, hsz], by simp [outRoot, hsz], by simp [outErr, hsz]⟩
    go_enter Try.func42, Try.ntmps42
    go_wp2_with fail
    refine (CC.out _ (H.out.alloc _)).mono ?_
    rintro e w1 ⟨a, cap, rfl, da, hb⟩
    clear da
    generalize cnNodes T = O at *
    generalize cnRoot T = rt at *
    obtain ⟨r1, r2, r3⟩ := R0.out w1 hb
    have HB := Lib.hid hb; clear hb R0
    have b0 : w1.cell? ⟨w.heap.size, 0, none⟩ = some (.slice none 0 0) := by simp [World.cell?, r1]
    have b1 : w1.cell? ⟨w.heap.size, 1, none⟩ = some (.int .i64 0) := by simp [World.cell?, r1]
    have f0 : w1.frozen? ⟨w.heap.size, 0, none⟩ = false := by simp [World.frozen?, r1]
    have f1 : w1.frozen? ⟨w.heap.size, 1, none⟩ = false := by simp [World.frozen?, r1]
    have R1 := Lib.hid r1; clear r1
    have R2 := Lib.hid r2; clear r2
    go_wp2_with fail
    refine bodyPost_ret (v := .tuple #[.agg #[.slice none 0 0, .int .i64 0], .int .i64 3]) (by simp [results, Try.results42, go_sem, b0, b1, r3]) rfl ⟨none, 0, ?_, ?_, ?_⟩
    · rw [e1.out.1, e1.out.2.1, e1.out.2.2]; rfl
    · rw [e1.out.1]; exact dNew_nil _ _ _
    · exact ((R2.out.setCell (Nat.le_refl _) _).setCell (Nat.le_refl _) _).alloc (by simp [World.setCell]; omega) _

end Go.Proofs.Ythhogbligfmpdaa
