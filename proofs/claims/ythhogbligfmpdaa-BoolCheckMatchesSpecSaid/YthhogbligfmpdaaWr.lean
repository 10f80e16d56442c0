/- The reference's value of a formula. -/
import Derived.Test.YthhogbligfmpdaaWq
set_option linter.unusedVariables false
set_option linter.unusedSimpArgs false
namespace Go.Proofs.Ythhogbligfmpdaa
open Go.RowKit Bd

theorem leaf_bit (x y v : Nat) (hx : x < 65536) (hv : v < 16) (h : ∀ j, j < 16 → x.testBit j = y.testBit (15 - j)) : (bits .and .i64 ((x : Int) / 2 ^ v) 1 == 1) = y.testBit (15 - v) := by
  rw [bit_of x v hx, ← h v hv]
  cases x.testBit v <;> rfl

theorem FmAt.kid {w0 w : World} {kids : List Fm} {a : Option Addr} {A : Nat → Option Addr} {Cp : Nat → Nat} (h : kids ≠ [] → ∃ b o, a = some ⟨b, o, none⟩ ∧ ∀ i (hi : i < kids.length), w0.cell? ⟨b, o + i * 3, none⟩ = some (.int .i64 kids[i].op) ∧ w0.cell? ⟨b, o + i * 3 + 1, none⟩ = some (.int .i64 kids[i].var) ∧ w0.cell? ⟨b, o + i * 3 + 2, none⟩ = some (.slice (A i) kids[i].kids.length (Cp i)))
    (hB : Below w0.heap.size w0 w) (h0 : 0 < kids.length) : ∃ b o, a = some ⟨b, o, none⟩ ∧ b < w0.heap.size ∧ ∀ i (hi : i < kids.length), w.cell? ⟨b, o + i * 3, none⟩ = some (.int .i64 kids[i].op) ∧ w.cell? ⟨b, o + i * 3 + 1, none⟩ = some (.int .i64 kids[i].var) ∧ w.cell? ⟨b, o + i * 3 + 2, none⟩ = some (.slice (A i) kids[i].kids.length (Cp i)) := by
  obtain ⟨b, o, e, hc⟩ := h (by intro e; rw [e] at h0; simp at h0)
  exact ⟨b, o, e, lt_of_cell (hc 0 h0).1, fun i hi => kid_cells hB (hc i hi)⟩

/-- The first k kids have this value. -/
def TR (kids : List Fm) (y : Nat) (c : Bool) (w : World) (i : Value) (wr : World) : Prop := ∃ k : Nat, k ≤ kids.length ∧ i = .int .i64 k ∧ (∀ j, j < k → evF (kids.getD j (.mk 0 0 [])) y = c) ∧ Below w.heap.size w wr

theorem getD_mem (l : List Fm) (x : Fm) (h : x ∈ l) : ∃ j, j < l.length ∧ l.getD j (.mk 0 0 []) = x := by
  obtain ⟨j, hj, rfl⟩ := List.mem_iff_getElem.1 h
  exact ⟨j, hj, by rw [List.getD_eq_getElem?_getD, List.getElem?_eq_getElem hj]; rfl⟩
theorem mem_getD (l : List Fm) (j : Nat) (h : j < l.length) : l.getD j (.mk 0 0 []) ∈ l := by
  rw [List.getD_eq_getElem?_getD, List.getElem?_eq_getElem h]; exact List.getElem_mem h
theorem all_done {l : List Fm} {y : Nat} (h : ∀ j, j < l.length → evF (l.getD j (.mk 0 0 [])) y = true) : (l.all fun f => evF f y) = true := by
  rw [List.all_eq_true]
  intro f hf
  obtain ⟨j, hj, rfl⟩ := getD_mem l f hf
  exact h j hj
theorem any_done {l : List Fm} {y : Nat} (h : ∀ j, j < l.length → evF (l.getD j (.mk 0 0 [])) y = false) : (l.any fun f => evF f y) = false := by
  rw [List.any_eq_false]
  intro f hf
  obtain ⟨j, hj, rfl⟩ := getD_mem l f hf
  rw [h j hj]; simp
theorem all_stop {l : List Fm} {y j : Nat} (hj : j < l.length) (h : evF (l.getD j (.mk 0 0 [])) y = false) : (l.all fun f => evF f y) = false := by
  rw [List.all_eq_false]
  exact ⟨_, mem_getD l j hj, by rw [h]; simp⟩
theorem any_stop {l : List Fm} {y j : Nat} (hj : j < l.length) (h : evF (l.getD j (.mk 0 0 [])) y = true) : (l.any fun f => evF f y) = true := by
  rw [List.any_eq_true]
  exact ⟨_, mem_getD l j hj, h⟩

set_option maxRecDepth 100000 in
set_option maxHeartbeats 1000000 in
theorem True_any {w0 : World} {F : Fm} {a : Option Addr} (h : FmAt w0 F a) : ∀ (cap : Nat) (w : World) (x y : Nat), Below w0.heap.size w0 w → fault F = 0 → x < 65536 → (∀ j, j < 16 → x.testBit j = y.testBit (15 - j)) →
    Calls Try.prog 49 #[.agg #[.int .i64 F.op, .int .i64 F.var, .slice a F.kids.length cap], .int .i64 x] w fun e w' => e = .returned (.bool (evF F y)) ∧ Below w.heap.size w w' := by
  induction h with
  | mk op var kids a A Cp hl h hk ih =>
  intro cap w x y hB hfa hx hxy
  have IH := Lib.hid ih; clear ih
  have H := Lib.hid h; clear h
  have HK := Lib.hid hk; clear hk
  have FZ := Lib.hid (fault_zero hfa)
  have HXY := Lib.hid hxy; clear hxy hfa
  simp only [Fm.op, Fm.var, Fm.kids]
  have B1 : Hid (Below w.heap.size w (w.alloc (.cells #[.int .i64 op, .int .i64 var, .slice a kids.length cap] 24))) := (Below.refl _ _).alloc (Nat.le_refl _) _
  have S1 : Hid ((w.alloc (.cells #[.int .i64 op, .int .i64 var, .slice a kids.length cap] 24)).heap.size = w.heap.size + 1) := by show _ = _; simp
  have x0 : (w.alloc (.cells #[.int .i64 op, .int .i64 var, .slice a kids.length cap] 24)).cell? ⟨w.heap.size, 0, none⟩ = some (.int .i64 op) := by simp
  have x2 : (w.alloc (.cells #[.int .i64 op, .int .i64 var, .slice a kids.length cap] 24)).cell? ⟨w.heap.size, 2, none⟩ = some (.slice a kids.length cap) := by simp
  have BO := Lib.hid (Below.over hB hB.size B1.out)
  rcases own_zero FZ.out.1 with ⟨rfl, hn, hv0, hv1⟩ | ⟨rfl, hn, hv0, hv1⟩ | ⟨rfl, hn⟩ | rfl | rfl | ⟨rfl, hn⟩ | ⟨rfl, hn⟩
  · -- a variable
    obtain ⟨v, rfl⟩ := Int.eq_ofNat_of_zero_le hv0
    have hv2 : v < 16 := by omega
    have HE : Hid (evF (.mk 1 v kids) y = (bits .and .i64 ((x : Int) / 2 ^ v) 1 == 1)) := by
      show _ = _
      rw [evF_var, leaf_bit x y v hx hv2 HXY.out, Int.toNat_natCast]
    clear x0 x2 hn
    go_enter Try.func49, Try.ntmps49
    go_wp2_with fail
    go_ret
    exact ⟨by rw [HE.out]; rfl, B1.out⟩
  · -- a constant
    have HE : Hid (evF (.mk 2 var kids) y = (var == 1)) := evF_const _ _ _
    clear x0 x2 hn
    go_enter Try.func49, Try.ntmps49
    go_wp2_with fail
    go_ret
    exact ⟨by rw [HE.out]; rfl, B1.out⟩
  · -- a negation
    have h0 : 0 < kids.length := by omega
    have HE := Lib.hid (evF_not var kids y h0)
    obtain ⟨b, o, rfl, hbl, hc⟩ := FmAt.kid H.out BO.out h0
    obtain ⟨c0, c1, c2⟩ := hc 0 h0
    have hi1 : (0 : Int) < (kids.length : Int) := by omega
    have HC := Lib.hid hc; clear hc hn
    have EK : Hid (kids.getD 0 (.mk 0 0 []) = kids[0]) := by show _ = _; rw [List.getD_eq_getElem?_getD, List.getElem?_eq_getElem h0]; rfl
    simp only [Nat.zero_mul, Nat.add_zero, Nat.zero_add] at c0 c1 c2
    go_enter Try.func49, Try.ntmps49
    go_wp2_with fail
    generalize w.alloc (.cells #[.int .i64 3, .int .i64 var, .slice (some ⟨b, o, none⟩) kids.length cap] 24) = w1 at *
    refine (IH.out 0 h0 (Cp 0) _ x y BO.out (FZ.out.2 0 h0) hx HXY.out).mono ?_
    rintro e w2 ⟨rfl, hb2⟩
    have HB2 := Lib.hid hb2; clear hb2
    go_wp2_with fail
    go_ret
    exact ⟨by rw [HE.out, EK.out]; rfl, Below.over B1.out B1.out.size HB2.out⟩
  · -- and
    have HE := Lib.hid (evF_and var kids y)
    go_enter Try.func49, Try.ntmps49
    go_wp2_with fail
    generalize w.alloc (.cells #[.int .i64 4, .int .i64 var, .slice a kids.length cap] 24) = w1 at *
    go_loopw [5] (fun i wr => TR kids y true w1 i wr) (fun i _ => kids.length - (intOf i).toNat)
    case atStart => exact ⟨0, Nat.zero_le _, rfl, fun j hj => by omega, Below.refl _ _⟩
    case round =>
      obtain ⟨k, hk, rfl, hall, hb⟩ := hrel
      have HA := Lib.hid hall; clear hall
      have y2 := cell_later hb x2
      have y0 := cell_later hb x0
      have HB := Lib.hid hb; clear hb
      by_cases hkk : k < kids.length
      · obtain ⟨b, o, rfl, hbl, hc⟩ := FmAt.kid H.out (Below.over BO.out BO.out.size HB.out) (by omega)
        obtain ⟨c0, c1, c2⟩ := hc k hkk
        have i1 : (k : Int) < (kids.length : Int) := by omega
        have i3 : (0 : Int) ≤ (k : Int) := by omega
        clear hc
        have C0 := Lib.hid (fun (W : World) (hW : Below w0.heap.size w0 W) => IH.out k hkk (Cp k) W x y hW (FZ.out.2 k hkk) hx HXY.out)
        generalize kids[k].op = p0 at *
        generalize kids[k].var = p1 at *
        generalize kids[k].kids.length = p2 at *
        have EK : Hid (kids.getD k (.mk 0 0 []) = kids[k]) := by show _ = _; rw [List.getD_eq_getElem?_getD, List.getElem?_eq_getElem hkk]; rfl
        go_wp2_with fail
        go_region_held3 (fun W => W.cell? ⟨w.heap.size, 2, none⟩ = some (.slice (some ⟨b, o, none⟩) kids.length cap) ∧ W.cell? ⟨w.heap.size, 0, none⟩ = some (.int .i64 4) ∧ W.cell? ⟨b, o + k * 3, none⟩ = some (.int .i64 p0) ∧ W.cell? ⟨b, o + k * 3 + 1, none⟩ = some (.int .i64 p1) ∧ W.cell? ⟨b, o + k * 3 + 2, none⟩ = some (.slice (A k) p2 (Cp k)))
          (first
            | exact ⟨y2, y0, c0, c1, c2⟩
            | exact ⟨cell_later hb2 y2, cell_later hb2 y0, cell_later hb2 c0, cell_later hb2 c1, cell_later hb2 c2⟩)
          (first | (go_at_call 49; refine (C0.out wr.drew ((Below.over BO.out BO.out.size HB.out).drew)).mono ?_; rintro e w2 ⟨rfl, hb2⟩))
        have z0 := cell_later hb2 y0
        have BB : Hid (Below w1.heap.size w1 w2) := (HB.out.drew).trans (hb2.mono HB.out.size)
        clear hb2
        cases hev : evF kids[k] y
        · have HEV := Lib.hid hev; clear hev
          have hres : Hid (evF (.mk 4 var kids) y = false) := by
            show _ = _
            rw [HE.out]
            exact all_stop hkk (by rw [EK.out, HEV.out])
          go_wp2_with fail
          go_ret
          exact ⟨by rw [hres.out]; rfl, Below.over B1.out B1.out.size BB.out⟩
        · have HEV := Lib.hid hev; clear hev
          go_wp2_with fail
          go_roundw
          case rel =>
            refine ⟨k + 1, by omega, by go_num, fun j hj => ?_, BB.out⟩
            by_cases hjk : j < k
            · exact HA.out j hjk
            · obtain rfl : j = k := by omega
              rw [EK.out, HEV.out]
          case measure => simp [intOf]; omega
      · have htk : kids.take k = kids := List.take_of_length_le (by omega)
        have hres : Hid (evF (.mk 4 var kids) y = true) := by
          show _ = _
          rw [HE.out]
          exact all_done (fun j hj => HA.out j (by omega))
        go_wp2_with fail
        go_ret
        exact ⟨by rw [hres.out]; rfl, Below.over B1.out B1.out.size HB.out⟩
  · -- or
    have HE := Lib.hid (evF_or var kids y)
    go_enter Try.func49, Try.ntmps49
    go_wp2_with fail
    generalize w.alloc (.cells #[.int .i64 5, .int .i64 var, .slice a kids.length cap] 24) = w1 at *
    go_loopw [5] (fun i wr => TR kids y false w1 i wr) (fun i _ => kids.length - (intOf i).toNat)
    case atStart => exact ⟨0, Nat.zero_le _, rfl, fun j hj => by omega, Below.refl _ _⟩
    case round =>
      obtain ⟨k, hk, rfl, hall, hb⟩ := hrel
      have HA := Lib.hid hall; clear hall
      have y2 := cell_later hb x2
      have y0 := cell_later hb x0
      have HB := Lib.hid hb; clear hb
      by_cases hkk : k < kids.length
      · obtain ⟨b, o, rfl, hbl, hc⟩ := FmAt.kid H.out (Below.over BO.out BO.out.size HB.out) (by omega)
        obtain ⟨c0, c1, c2⟩ := hc k hkk
        have i1 : (k : Int) < (kids.length : Int) := by omega
        have i3 : (0 : Int) ≤ (k : Int) := by omega
        clear hc
        have C0 := Lib.hid (fun (W : World) (hW : Below w0.heap.size w0 W) => IH.out k hkk (Cp k) W x y hW (FZ.out.2 k hkk) hx HXY.out)
        generalize kids[k].op = p0 at *
        generalize kids[k].var = p1 at *
        generalize kids[k].kids.length = p2 at *
        have EK : Hid (kids.getD k (.mk 0 0 []) = kids[k]) := by show _ = _; rw [List.getD_eq_getElem?_getD, List.getElem?_eq_getElem hkk]; rfl
        go_wp2_with fail
        go_region_held3 (fun W => W.cell? ⟨w.heap.size, 2, none⟩ = some (.slice (some ⟨b, o, none⟩) kids.length cap) ∧ W.cell? ⟨w.heap.size, 0, none⟩ = some (.int .i64 5) ∧ W.cell? ⟨b, o + k * 3, none⟩ = some (.int .i64 p0) ∧ W.cell? ⟨b, o + k * 3 + 1, none⟩ = some (.int .i64 p1) ∧ W.cell? ⟨b, o + k * 3 + 2, none⟩ = some (.slice (A k) p2 (Cp k)))
          (first
            | exact ⟨y2, y0, c0, c1, c2⟩
            | exact ⟨cell_later hb2 y2, cell_later hb2 y0, cell_later hb2 c0, cell_later hb2 c1, cell_later hb2 c2⟩)
          (first | (go_at_call 49; refine (C0.out wr.drew ((Below.over BO.out BO.out.size HB.out).drew)).mono ?_; rintro e w2 ⟨rfl, hb2⟩))
        have z0 := cell_later hb2 y0
        have BB : Hid (Below w1.heap.size w1 w2) := (HB.out.drew).trans (hb2.mono HB.out.size)
        clear hb2
        cases hev : evF kids[k] y
        · have HEV := Lib.hid hev; clear hev
          go_wp2_with fail
          go_roundw
          case rel =>
            refine ⟨k + 1, by omega, by go_num, fun j hj => ?_, BB.out⟩
            by_cases hjk : j < k
            · exact HA.out j hjk
            · obtain rfl : j = k := by omega
              rw [EK.out, HEV.out]
          case measure => simp [intOf]; omega
        · have HEV := Lib.hid hev; clear hev
          have hres : Hid (evF (.mk 5 var kids) y = true) := by
            show _ = _
            rw [HE.out]
            exact any_stop hkk (by rw [EK.out, HEV.out])
          go_wp2_with fail
          go_ret
          exact ⟨by rw [hres.out]; rfl, Below.over B1.out B1.out.size BB.out⟩
      · have htk : kids.take k = kids := List.take_of_length_le (by omega)
        have hres : Hid (evF (.mk 5 var kids) y = false) := by
          show _ = _
          rw [HE.out]
          exact any_done (fun j hj => HA.out j (by omega))
        go_wp2_with fail
        go_ret
        exact ⟨by rw [hres.out]; rfl, Below.over B1.out B1.out.size HB.out⟩
  · -- xor
    have h0 : 0 < kids.length := by omega
    have h1 : 1 < kids.length := by omega
    have HE := Lib.hid (evF_xor var kids y h1)
    obtain ⟨b, o, rfl, hbl, hc⟩ := FmAt.kid H.out BO.out h0
    obtain ⟨c0, c1, c2⟩ := hc 0 h0
    obtain ⟨d0, d1, d2⟩ := hc 1 h1
    have hi1 : (0 : Int) < (kids.length : Int) := by omega
    have hi2 : (1 : Int) < (kids.length : Int) := by omega
    have HC := Lib.hid hc; clear hc hn
    have EK : Hid (kids.getD 0 (.mk 0 0 []) = kids[0]) := by show _ = _; rw [List.getD_eq_getElem?_getD, List.getElem?_eq_getElem h0]; rfl
    have EK1 : Hid (kids.getD 1 (.mk 0 0 []) = kids[1]) := by show _ = _; rw [List.getD_eq_getElem?_getD, List.getElem?_eq_getElem h1]; rfl
    simp only [Nat.zero_mul, Nat.one_mul, Nat.add_zero, Nat.zero_add] at c0 c1 c2 d0 d1 d2
    go_enter Try.func49, Try.ntmps49
    go_wp2_with fail
    generalize w.alloc (.cells #[.int .i64 6, .int .i64 var, .slice (some ⟨b, o, none⟩) kids.length cap] 24) = w1 at *
    have C0 := Lib.hid (fun (W : World) (hW : Below w0.heap.size w0 W) => IH.out 0 h0 (Cp 0) W x y hW (FZ.out.2 0 h0) hx HXY.out)
    have C1 := Lib.hid (fun (W : World) (hW : Below w0.heap.size w0 W) => IH.out 1 h1 (Cp 1) W x y hW (FZ.out.2 1 h1) hx HXY.out)
    generalize kids[0].op = p0 at *
    generalize kids[0].var = p1 at *
    generalize kids[0].kids.length = p2 at *
    generalize kids[1].op = q0 at *
    generalize kids[1].var = q1 at *
    generalize kids[1].kids.length = q2 at *
    go_region_held3 (fun W => W.cell? ⟨w.heap.size, 2, none⟩ = some (.slice (some ⟨b, o, none⟩) kids.length cap) ∧ W.cell? ⟨b, o, none⟩ = some (.int .i64 p0) ∧ W.cell? ⟨b, o + 1, none⟩ = some (.int .i64 p1) ∧ W.cell? ⟨b, o + 2, none⟩ = some (.slice (A 0) p2 (Cp 0)) ∧
        W.cell? ⟨b, o + 3, none⟩ = some (.int .i64 q0) ∧ W.cell? ⟨b, o + 3 + 1, none⟩ = some (.int .i64 q1) ∧ W.cell? ⟨b, o + 3 + 2, none⟩ = some (.slice (A 1) q2 (Cp 1)))
      (first
        | exact ⟨x2, c0, c1, c2, d0, d1, d2⟩
        | exact ⟨cell_later hb2 x2, cell_later hb2 c0, cell_later hb2 c1, cell_later hb2 c2, cell_later hb2 d0, cell_later hb2 d1, cell_later hb2 d2⟩
        | exact ⟨cell_later hb3 (cell_later hb2 x2), cell_later hb3 (cell_later hb2 c0), cell_later hb3 (cell_later hb2 c1), cell_later hb3 (cell_later hb2 c2), cell_later hb3 (cell_later hb2 d0), cell_later hb3 (cell_later hb2 d1), cell_later hb3 (cell_later hb2 d2)⟩)
      (first
        | (go_at_call_of 49 (Value.agg #[.int .i64 p0, .int .i64 p1, .slice (A 0) p2 (Cp 0)]); refine (C0.out w1.drew BO.out.drew).mono ?_; rintro e w2 ⟨rfl, hb2⟩)
        | (go_at_call_of 49 (Value.agg #[.int .i64 q0, .int .i64 q1, .slice (A 1) q2 (Cp 1)]); refine (C1.out w2 (Below.over BO.out.drew BO.out.drew.size hb2)).mono ?_; rintro e w3 ⟨rfl, hb3⟩))
    have BB := Lib.hid (Below.over (Below.over B1.out B1.out.size ((Below.refl w1.heap.size w1).drew.trans (hb2.mono (Nat.le_refl _)))) (Nat.le_trans B1.out.size hb2.size) hb3)
    clear hb2 hb3
    go_wp2_with fail
    go_ret
    exact ⟨by rw [HE.out, EK.out, EK1.out]; rfl, BB.out⟩
  · -- ite
    have h0 : 0 < kids.length := by omega
    have h1 : 1 < kids.length := by omega
    have h2 : 2 < kids.length := by omega
    have HE := Lib.hid (evF_ite var kids y h2)
    obtain ⟨b, o, rfl, hbl, hc⟩ := FmAt.kid H.out BO.out h0
    obtain ⟨c0, c1, c2⟩ := hc 0 h0
    obtain ⟨d0, d1, d2⟩ := hc 1 h1
    obtain ⟨e0, e1, e2⟩ := hc 2 h2
    have hi1 : (0 : Int) < (kids.length : Int) := by omega
    have hi2 : (1 : Int) < (kids.length : Int) := by omega
    have hi3 : (2 : Int) < (kids.length : Int) := by omega
    have HC := Lib.hid hc; clear hc hn
    have EK : Hid (kids.getD 0 (.mk 0 0 []) = kids[0]) := by show _ = _; rw [List.getD_eq_getElem?_getD, List.getElem?_eq_getElem h0]; rfl
    have EK1 : Hid (kids.getD 1 (.mk 0 0 []) = kids[1]) := by show _ = _; rw [List.getD_eq_getElem?_getD, List.getElem?_eq_getElem h1]; rfl
    have EK2 : Hid (kids.getD 2 (.mk 0 0 []) = kids[2]) := by show _ = _; rw [List.getD_eq_getElem?_getD, List.getElem?_eq_getElem h2]; rfl
    simp only [Nat.zero_mul, Nat.one_mul, Nat.add_zero, Nat.zero_add, Nat.reduceMul] at c0 c1 c2 d0 d1 d2 e0 e1 e2
    go_enter Try.func49, Try.ntmps49
    go_wp2_with fail
    generalize w.alloc (.cells #[.int .i64 7, .int .i64 var, .slice (some ⟨b, o, none⟩) kids.length cap] 24) = w1 at *
    refine (IH.out 0 h0 (Cp 0) w1 x y BO.out (FZ.out.2 0 h0) hx HXY.out).mono ?_
    rintro e w2 ⟨rfl, hb2⟩
    have y2 := cell_later hb2 x2
    have f0 := cell_later hb2 d0
    have f1 := cell_later hb2 d1
    have f2 := cell_later hb2 d2
    have g0 := cell_later hb2 e0
    have g1 := cell_later hb2 e1
    have g2 := cell_later hb2 e2
    have HB2 := Lib.hid hb2; clear hb2
    cases hev : evF kids[0] y
    · have HEV := Lib.hid hev; clear hev
      go_wp2_with fail
      refine (IH.out 2 h2 (Cp 2) w2 x y (Below.over BO.out BO.out.size HB2.out) (FZ.out.2 2 h2) hx HXY.out).mono ?_
      rintro e w3 ⟨rfl, hb3⟩
      have HB3 := Lib.hid hb3; clear hb3
      go_wp2_with fail
      go_ret
      exact ⟨by rw [HE.out, EK.out, EK2.out, HEV.out]; rfl, Below.over (Below.over B1.out B1.out.size HB2.out) (Nat.le_trans B1.out.size HB2.out.size) HB3.out⟩
    · have HEV := Lib.hid hev; clear hev
      go_wp2_with fail
      refine (IH.out 1 h1 (Cp 1) w2 x y (Below.over BO.out BO.out.size HB2.out) (FZ.out.2 1 h1) hx HXY.out).mono ?_
      rintro e w3 ⟨rfl, hb3⟩
      have HB3 := Lib.hid hb3; clear hb3
      go_wp2_with fail
      go_ret
      exact ⟨by rw [HE.out, EK.out, EK1.out, HEV.out]; rfl, Below.over (Below.over B1.out B1.out.size HB2.out) (Nat.le_trans B1.out.size HB2.out.size) HB3.out⟩

end Go.Proofs.Ythhogbligfmpdaa
