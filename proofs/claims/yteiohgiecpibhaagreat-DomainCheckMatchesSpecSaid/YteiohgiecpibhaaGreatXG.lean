/- matched, where the small domains are different numbers. -/
import Derived.Test.YteiohgiecpibhaaGreatXF
set_option linter.unusedVariables false
set_option linter.unusedSimpArgs false
set_option maxRecDepth 100000
set_option maxHeartbeats 4000000
namespace Go.Proofs.YteiohgiecpibhaaGreat
open Go.RowKit Fdm

theorem run_storeF {P : Program} {w : World} {a : Addr} {m : Mode} (f : Fn) (x y : Array Value) : (store a (.func f x y) m).run P w = stored P w a (.func f x y) m := run_store P w a _ m rfl
attribute [local go_sem] run_storeF
def vl (D : List Dm) (l : List Int) (k : Nat) : Int := leastF (dm D (l.getD k 0).toNat)
/-- The small ones: numbers of domains that are one number each, no two of them the same. -/
structure Sml (D : List Dm) (l : List Int) (n : Nat) : Prop where
  at_ : ∀ k, k < l.length → l.getD k 0 = (((l.getD k 0).toNat : Nat) : Int) ∧ (l.getD k 0).toNat < n ∧ dm D (l.getD k 0).toNat = [(vl D l k, vl D l k)] ∧ -4611686018427387904 ≤ vl D l k ∧ vl D l k ≤ 4611686018427387904
  ne : ∀ j k, j < k → k < l.length → vl D l j ≠ vl D l k
def okA (D : List Dm) (l : List Int) (but wo : Int) (use : Bool) (k : Nat) : Bool := decide (l.getD k 0 = but) || !(use && decide (vl D l k = wo))
def okM (D : List Dm) (l : List Int) (but wo : Int) (use : Bool) : Bool := (List.range l.length).all (okA D l but wo use)
/-- What the loop keeps. -/
structure Mt (w : World) (a : Option Addr) (n c0 : Nat) (wo : Int) (use : Bool) (ol : List (Int × Value)) (W : World) : Prop where
  bx : W.heap[w.heap.size]? = some (.cells #[.slice a n c0] 28 (0, 0))
  bw : W.heap[w.heap.size + 1]? = some (.cells #[.int .i64 wo] 3 (0, 0))
  bu : W.heap[w.heap.size + 2]? = some (.cells #[.bool use] 4 (0, 0))
  mp : MpI W (w.heap.size + 3) ol
  bo : W.heap[w.heap.size + 4]? = some (.cells #[.map (some (w.heap.size + 3))] 145 (0, 0))
  bl : Below w.heap.size w W
theorem Mt.below {w W W' : World} {a : Option Addr} {n c0 : Nat} {wo : Int} {use : Bool} {ol : List (Int × Value)} (h : Mt w a n c0 wo use ol W) (hb : Below W.heap.size W W') : Mt w a n c0 wo use ol W' :=
  ⟨(hb.block _ (Array.getElem?_eq_some_iff.1 h.bx).1).trans h.bx, (hb.block _ (Array.getElem?_eq_some_iff.1 h.bw).1).trans h.bw, (hb.block _ (Array.getElem?_eq_some_iff.1 h.bu).1).trans h.bu, h.mp.below hb, (hb.block _ (Array.getElem?_eq_some_iff.1 h.bo).1).trans h.bo, over h.bl hb⟩
theorem Mt.bt2 {w W W' : World} {a : Option Addr} {n c0 sm : Nat} {wo : Int} {use : Bool} {ol ol' : List (Int × Value)} (h : Mt w a n c0 wo use ol W) (hb : Bt2 W.heap.size sm (w.heap.size + 3) W W') (hs : w.heap.size + 4 < sm) (hm : MpI W' (w.heap.size + 3) ol') : Mt w a n c0 wo use ol' W' := by
  have s4 := (Array.getElem?_eq_some_iff.1 h.bo).1
  exact ⟨(hb.block _ (by omega) (by omega) (by omega)).trans h.bx, (hb.block _ (by omega) (by omega) (by omega)).trans h.bw, (hb.block _ (by omega) (by omega) (by omega)).trans h.bu, hm, (hb.block _ (by omega) (by omega) (by omega)).trans h.bo, hb.os.trans h.bl.os, hb.tape.trans h.bl.tape, hb.output.trans h.bl.output, Nat.le_trans h.bl.size hb.size, fun b hlt => (hb.block b (by omega) (by omega) (by omega)).trans (h.bl.block b hlt)⟩
theorem mt_new (w : World) (a : Option Addr) (n c0 : Nat) (wo : Int) (use : Bool) : Mt w a n c0 wo use [] (((((w.alloc (.cells #[.slice a n c0] 28)).alloc (.cells #[.int .i64 wo] 3)).alloc (.cells #[.bool use] 4)).alloc (.map #[] 0)).alloc (.cells #[.map (some (w.heap.size + 3))] 145)) := by
  obtain ⟨a0, a1, a2, a3, a4⟩ := alloc3 w (.cells #[.slice a n c0] 28) (.cells #[.int .i64 wo] 3) (.cells #[.bool use] 4)
  obtain ⟨b0, b1, b2, b3⟩ := alloc2 (((w.alloc (.cells #[.slice a n c0] 28)).alloc (.cells #[.int .i64 wo] 3)).alloc (.cells #[.bool use] 4)) (.map #[] 0) (.cells #[.map (some (w.heap.size + 3))] 145)
  rw [a4] at b0 b1
  exact ⟨(b2.block _ (by rw [a4]; omega)).trans a0, (b2.block _ (by rw [a4]; omega)).trans a1, (b2.block _ (by rw [a4]; omega)).trans a2, ⟨_, _, b0, rfl⟩, b1, over a3 b2⟩
theorem matched_any {w : World} {D : List Dm} {l : List Int} {a la : Option Addr} {n c0 ln lc : Nat} {but wo : Int} {use : Bool} (hx : DsA w D a) (hn : D.length = n) (hc : n ≤ c0) (hc2 : c0 ≤ 9223372036854775807) (hl : InA w l la) (hll : l.length = ln) (hl1 : ln ≤ lc) (hl2 : lc ≤ 9223372036854775807) (S : Sml D l n) :
    Calls Tryz.prog 168 #[.slice a n c0, .slice la ln lc, .int .i64 but, .int .i64 wo, .bool use] w fun e w' => e = .returned (.bool (okM D l but wo use)) ∧ Below w.heap.size w w' := by
  obtain ⟨R, hRr⟩ : ∃ R : Ending → World → Prop, R = fun e w' => e = .returned (.bool (okM D l but wo use)) ∧ Below w.heap.size w w' := ⟨_, rfl⟩
  rw [← hRr]
  have HR := Lib.hid hRr
  have HX := Lib.hid hx; have DN := Lib.hid hn; have HL := Lib.hid hl; have LL := Lib.hid hll; have SS := Lib.hid S
  have hmm := @run_makeMap Tryz.prog
  clear hRr hx hn hl hll S
  go_enter Tryz.func168, Tryz.ntmps168
  go_upto_region 2 with fail
  have MT0 := Lib.hid (mt_new w a n c0 wo use)
  obtain ⟨w1, hw1⟩ : ∃ w1, (((((w.alloc (.cells #[.slice a n c0] 28)).alloc (.cells #[.int .i64 wo] 3)).alloc (.cells #[.bool use] 4)).alloc (.map #[] 0)).alloc (.cells #[.map (some (w.heap.size + 1 + 1 + 1))] 145)) = w1 := ⟨_, rfl⟩
  have MT1 : Hid (Mt w a n c0 wo use [] w1) := by show _; rw [← hw1]; exact MT0.out
  rw [hw1]
  clear hw1 MT0
  go_wp2_with fail
  go_loopw [19] (fun v19 wr => ∃ k ol, k ≤ ln ∧ v19 = .int .i64 ((k : Nat) : Int) ∧ Mt w a n c0 wo use ol wr ∧ (∀ j, k ≤ j → j < ln → fi (vl D l j) ol = none) ∧ (∀ j, j < k → okA D l but wo use j = true)) (fun v19 _ => ln - (intOf v19).toNat)
  case atStart => exact ⟨0, [], Nat.zero_le _, rfl, MT1.out, fun _ _ _ => rfl, fun j hj => absurd hj (Nat.not_lt_zero _)⟩
  case round =>
    obtain ⟨k, ol, hk, rfl, hM, hN, hO⟩ := hrel
    by_cases hlt : k < ln
    · obtain ⟨gl, oo, hla, kl⟩ := HL.out (by have := LL.out; intro e; rw [e] at this; simp at this; omega)
      subst hla
      have hk2 : k < l.length := by have := LL.out; omega
      obtain ⟨e1, e2, e3, e4, e5⟩ := SS.out.at_ k hk2
      have c22 := cell_later hM.bl (Nat.le_refl _) (kl k hk2)
      obtain ⟨z, hz⟩ : ∃ z, l.getD k 0 = z := ⟨_, rfl⟩
      obtain ⟨j, hj⟩ : ∃ j, z.toNat = j := ⟨_, rfl⟩
      rw [hz] at e1 e2 e3 c22
      rw [hj] at e1 e2 e3
      subst e1
      have h0 : ((k : Nat) : Int) < (ln : Int) := by omega
      clear kl
      by_cases hbt : ((j : Nat) : Int) = but
      · have OK : Hid (∀ i, i < k + 1 → okA D l but wo use i = true) := fun i hi => by
          by_cases q : i = k
          · subst q; unfold okA; rw [hz]; simp [hbt]
          · exact hO i (by omega)
        have M := Lib.hid hM
        have HN : Hid (∀ i, k + 1 ≤ i → i < ln → fi (vl D l i) ol = none) := fun i h1 h2 => hN i (by omega) h2
        clear hO hM hN hz hj e2 e3 e4 e5
        go_wp2_with fail
        go_roundw
        case measure => simp [intOf]; omega
        case rel => exact ⟨k + 1, ol, by omega, by simp, M.out, HN.out, OK.out⟩
      · have M := Lib.hid hM
        go_upto_region 9 with fail
        obtain ⟨q0, q1, q2, q3, q4⟩ := alloc3 wr (.map #[] 0) (.cells #[.map (some wr.heap.size)] 128) (.cells #[.func (.func 185) #[] #[.pointer (some ⟨w.heap.size, 0, none⟩), .pointer (some ⟨wr.heap.size + 1, 0, none⟩), .pointer (some ⟨w.heap.size + 1 + 1, 0, none⟩), .pointer (some ⟨w.heap.size + 1, 0, none⟩), .pointer (some ⟨w.heap.size + 1 + 1 + 1 + 1, 0, none⟩), .pointer (some ⟨wr.heap.size + 1 + 1, 0, none⟩)]] 66)
        obtain ⟨w4, hw4⟩ : ∃ w4, ((wr.alloc (.map #[] 0)).alloc (.cells #[.map (some wr.heap.size)] 128)).alloc (.cells #[.func (.func 185) #[] #[.pointer (some ⟨w.heap.size, 0, none⟩), .pointer (some ⟨wr.heap.size + 1, 0, none⟩), .pointer (some ⟨w.heap.size + 1 + 1, 0, none⟩), .pointer (some ⟨w.heap.size + 1, 0, none⟩), .pointer (some ⟨w.heap.size + 1 + 1 + 1 + 1, 0, none⟩), .pointer (some ⟨wr.heap.size + 1 + 1, 0, none⟩)]] 66) = w4 := ⟨_, rfl⟩
        rw [hw4] at q0 q1 q2 q3 q4
        rw [hw4]
        clear hw4
        have M4 := Lib.hid (M.out.below q3)
        have q2 : w4.heap[wr.heap.size + 1 + 1]? = some (.cells #[.func (.func 185) #[] #[.pointer (some ⟨w.heap.size, 0, none⟩), .pointer (some ⟨wr.heap.size + 1, 0, none⟩), .pointer (some ⟨w.heap.size + 1 + 1, 0, none⟩), .pointer (some ⟨w.heap.size + 1, 0, none⟩), .pointer (some ⟨w.heap.size + 1 + 1 + 1 + 1, 0, none⟩), .pointer (some ⟨wr.heap.size + 1 + 1, 0, none⟩)]] 66 (0, 0)) := q2
        have t0 : w4.cell? ⟨wr.heap.size + 1 + 1, 0, none⟩ = some (.func (.func 185) #[] #[.pointer (some ⟨w.heap.size, 0, none⟩), .pointer (some ⟨wr.heap.size + 1, 0, none⟩), .pointer (some ⟨w.heap.size + 1 + 1, 0, none⟩), .pointer (some ⟨w.heap.size + 1, 0, none⟩), .pointer (some ⟨w.heap.size + 1 + 1 + 1 + 1, 0, none⟩), .pointer (some ⟨wr.heap.size + 1 + 1, 0, none⟩)]) := by rw [cell_of_row _ _ _ _ _ _ q2]; rfl
        have LT4 : Hid (w.heap.size + 4 < wr.heap.size) := (Array.getElem?_eq_some_iff.1 M.out.bo).1
        have dne : D ≠ [] := by intro e; have := DN.out; rw [e] at this; simp at this; omega
        obtain ⟨gd, od, ea, kd⟩ := HX.out dne
        obtain ⟨u, cu, du⟩ := kd j (by have := DN.out; omega)
        obtain ⟨ua, uc, ue, ul1, ul2, ub⟩ := du.ex
        rw [e3] at ue ub
        obtain ⟨gv, ov, eu, bv, cv⟩ := ub (by simp)
        subst eu
        have ue : u = .slice (some ⟨gv, ov, none⟩) 1 uc := ue
        subst ue
        subst ea
        obtain ⟨v, hv⟩ : ∃ v, vl D l k = v := ⟨_, rfl⟩
        rw [hv] at e3 e4 e5 cv
        have cv0 := (cv 0 (by simp)).1
        have cv1 := (cv 0 (by simp)).2
        have BW : Below w.heap.size w w4 := M4.out.bl
        have TR := try1_any (w := w4) (i := j) (n := n) (bx := w.heap.size) (bs := wr.heap.size + 1) (bu := w.heap.size + 1 + 1) (bw := w.heap.size + 1) (bo := w.heap.size + 1 + 1 + 1 + 1) (bt := wr.heap.size + 1 + 1) (sm := wr.heap.size) (om := w.heap.size + 3) (gd := gd) (od := od) (xc := c0) (b := gv) (off := ov) (cap := uc) (v := v) (k0 := wo) (use := use) (ol := ol) e4 e5
          (by rw [cell_of_row _ _ _ _ _ _ M4.out.bx]; rfl) e2 (cell_later BW (Nat.le_refl _) cu) (cell_later BW (Nat.le_refl _) (by simpa [sp] using cv0)) (cell_later BW (Nat.le_refl _) (by simpa [sp] using cv1))
          (by rw [cell_of_row _ _ _ _ _ _ q1]; rfl) ⟨_, _, q0, rfl⟩ (by rw [cell_of_row w4 (w.heap.size + 1 + 1) 0 _ _ _ M4.out.bu]; rfl) (by rw [cell_of_row _ _ _ _ _ _ M4.out.bw]; rfl) (by rw [cell_of_row w4 (w.heap.size + 1 + 1 + 1 + 1) 0 _ _ _ M4.out.bo]; rfl) M4.out.mp (hv ▸ hN k (Nat.le_refl _) hlt) (by have := LT4.out; omega)
        have okk : okA D l but wo use k = !(use && decide (v = wo)) := by
          unfold okA; rw [hz, hv, decide_eq_false hbt, Bool.false_or]
        have V := Lib.hid hv
        have HO := Lib.hid hO
        have HNN : Hid (∀ i, k + 1 ≤ i → i < ln → fi (vl D l i) (mpS ol v (.int .i64 (j : Int))) = none) := fun i h1 h2 => by
          have e := mpS_fi ol v (.int .i64 (j : Int)) (vl D l i)
          rw [if_neg (by rw [← hv]; exact fun e => SS.out.ne k i (by omega) (by have := LL.out; omega) e.symm), hN i (by omega) h2] at e
          cases q : fi (vl D l i) (mpS ol v (.int .i64 (j : Int))) with
          | none => rfl
          | some x => rw [q] at e; simp at e
        obtain ⟨r, hr⟩ : ∃ r, (!(use && decide (v = wo))) = r := ⟨_, rfl⟩
        rw [hr] at okk TR
        have TRH := Lib.hid TR
        have OKK := Lib.hid okk
        clear TR okk hr hv hO hN hM hz hj e2 e3 e4 e5 cv cv0 cv1 cu kd du ub BW dne q0 q1 q2 q3 q4 c22 ul1 ul2 bv
        cases r with
        | true =>
          go_wp2_with (go_at_call 185; refine TRH.out.mono ?_; rintro e w5 ⟨rfl, hb, hm⟩; have BT := Lib.hid hb; have MM := Lib.hid hm; clear hb hm)
          have M5 : Mt w (some ⟨gd, od, none⟩) n c0 wo use (mpS ol v (.int .i64 (j : Int))) w5 := M4.out.bt2 BT.out LT4.out MM.out
          go_roundw
          case measure => simp [intOf]; omega
          case rel => exact ⟨k + 1, _, by omega, by simp, M5, HNN.out, fun i hi => by
              by_cases q : i = k
              · subst q; exact OKK.out
              · exact HO.out i (by omega)⟩
        | false =>
          have OKM : Hid (okM D l but wo use = false) := by
            show _ = _
            unfold okM
            rw [List.all_eq_false]
            exact ⟨k, List.mem_range.2 (by have := LL.out; omega), by rw [OKK.out]; simp⟩
          go_wp2_with (go_at_call 185; refine TRH.out.mono ?_; rintro e w5 ⟨rfl, hb, hm⟩; have BT := Lib.hid hb; have MM := Lib.hid hm; clear hb hm)
          have M5 : Mt w (some ⟨gd, od, none⟩) n c0 wo use ol w5 := M4.out.bt2 BT.out LT4.out MM.out
          rw [HR.out, OKM.out]
          exact ⟨rfl, M5.bl⟩
    · have h0 : ¬ ((k : Nat) : Int) < (ln : Int) := by omega
      have OK : Hid (okM D l but wo use = true) := by
        show _ = _
        unfold okM
        rw [List.all_eq_true]
        intro j hj
        exact hO j (by have := List.mem_range.1 hj; have := LL.out; omega)
      have M := Lib.hid hM
      clear hO hN hM
      go_wp2_with fail
      rw [HR.out, OK.out]
      exact ⟨rfl, M.out.bl⟩
end Go.Proofs.YteiohgiecpibhaaGreat
