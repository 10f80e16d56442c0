/- The law of constraints; a constraint as handed in. -/
import Derived.Test.YteiohgiecpibhaaGreatNE
import Derived.Test.YteiohgiecpibhaaGreatVf
import Derived.Lib.SmallJoins
set_option linter.unusedVariables false
set_option linter.unusedSimpArgs false
set_option maxRecDepth 100000
set_option maxHeartbeats 4000000
namespace Go.Proofs.YteiohgiecpibhaaGreat
open Go.RowKit Fdm

theorem law9_any {w : World} {c : Con} {vals : List Int} {a1 a2 a3 a6 av : Option Addr} {n1 c1 n2 c2 n3 c3 n6 c6 nv cv : Nat} (h : Ka w c a1 n1 c1 a2 n2 c2 a3 n3 c3 a6 n6 c6) (n : Int) (hv : InA w vals av) (vl : vals.length = nv) (hcv : nv ≤ cv) (hcu : cv ≤ 9223372036854775807) :
    Calls Tryz.prog 9 #[.agg #[.int .i64 c.kind, .slice a1 n1 c1, .slice a2 n2 c2, .slice a3 n3 c3, .int .i64 c.rel, .int .i64 c.bound, .slice a6 n6 c6], .int .i64 n, .slice av nv cv] w fun e w' => e = .returned (.bool true) ∧ Below w.heap.size w w' := by
  obtain ⟨k, V, F, D, rel, bd, T⟩ := c
  show Calls Tryz.prog 9 #[.agg #[.int .i64 k, .slice a1 n1 c1, .slice a2 n2 c2, .slice a3 n3 c3, .int .i64 rel, .int .i64 bd, .slice a6 n6 c6], .int .i64 n, .slice av nv cv] w fun e w' => e = .returned (.bool true) ∧ Below w.heap.size w w'
  obtain ⟨W0, hW0⟩ : ∃ W0, w.alloc (.cells #[.int .i64 k, .slice a1 n1 c1, .slice a2 n2 c2, .slice a3 n3 c3, .int .i64 rel, .int .i64 bd, .slice a6 n6 c6] 33) = W0 := ⟨_, rfl⟩
  have B0 : Hid (Below w.heap.size w W0) := by rw [← hW0]; exact Lib.hid (below_new _ _)
  have I0 : W0.heap[w.heap.size]? = some (.cells #[.int .i64 k, .slice a1 n1 c1, .slice a2 n2 c2, .slice a3 n3 c3, .int .i64 rel, .int .i64 bd, .slice a6 n6 c6] 33 (0, 0)) := by rw [← hW0]; exact heap_alloc_new _ _
  have p0 : W0.cell? ⟨w.heap.size, 0, none⟩ = some (.int .i64 k) := by rw [cell_of_row _ _ _ _ _ _ I0]; rfl
  have p1 : W0.cell? ⟨w.heap.size, 1, none⟩ = some (.slice a1 n1 c1) := by rw [cell_of_row _ _ _ _ _ _ I0]; rfl
  have p2 : W0.cell? ⟨w.heap.size, 2, none⟩ = some (.slice a2 n2 c2) := by rw [cell_of_row _ _ _ _ _ _ I0]; rfl
  have p3 : W0.cell? ⟨w.heap.size, 3, none⟩ = some (.slice a3 n3 c3) := by rw [cell_of_row _ _ _ _ _ _ I0]; rfl
  have p4 : W0.cell? ⟨w.heap.size, 4, none⟩ = some (.int .i64 rel) := by rw [cell_of_row _ _ _ _ _ _ I0]; rfl
  have p5 : W0.cell? ⟨w.heap.size, 5, none⟩ = some (.int .i64 bd) := by rw [cell_of_row _ _ _ _ _ _ I0]; rfl
  have p6 : W0.cell? ⟨w.heap.size, 6, none⟩ = some (.slice a6 n6 c6) := by rw [cell_of_row _ _ _ _ _ _ I0]; rfl
  clear I0
  have KB := Lib.hid (h.below B0.out)
  have HV : Hid (InA W0 vals av) := Lib.hid (hv.below B0.out)
  clear h hv
  obtain ⟨zb, hzb⟩ : ∃ zb, saB k rel bd V F D T vals = zb := ⟨_, rfl⟩
  obtain ⟨ze, hze⟩ : ∃ ze, saE k rel bd V F D T vals = ze := ⟨_, rfl⟩
  obtain ⟨z, hz⟩ : ∃ z, faF k rel bd V F D T n = z := ⟨_, rfl⟩
  have S28 : Hid (Calls Tryz.prog 28 #[.agg #[.int .i64 k, .slice a1 n1 c1, .slice a2 n2 c2, .slice a3 n3 c3, .int .i64 rel, .int .i64 bd, .slice a6 n6 c6], .slice av nv cv] W0 fun e w' => e = .returned (.tuple #[.bool zb, .int .i64 ze]) ∧ Below W0.heap.size W0 w') := Lib.hid (by rw [← hzb, ← hze]; exact satisfies28_any KB.out HV.out vl hcv hcu)
  have S29 : Hid (∀ w9, Below W0.heap.size W0 w9 → Calls Tryz.prog 29 #[.agg #[.int .i64 k, .slice a1 n1 c1, .slice a2 n2 c2, .slice a3 n3 c3, .int .i64 rel, .int .i64 bd, .slice a6 n6 c6], .slice av nv cv] w9 fun e w' => e = .returned (.tuple #[.bool zb, .int .i64 ze]) ∧ Below w9.heap.size w9 w') := Lib.hid (by rw [← hzb, ← hze]; exact fun w9 hb => satisfied29_any (KB.out.below hb) (HV.out.below hb) vl hcv hcu)
  have C30 : Hid (∀ w9, Below W0.heap.size W0 w9 → Calls Tryz.prog 30 #[.agg #[.int .i64 k, .slice a1 n1 c1, .slice a2 n2 c2, .slice a3 n3 c3, .int .i64 rel, .int .i64 bd, .slice a6 n6 c6], .int .i64 n] w9 fun e w' => e = .returned (.int .i64 z) ∧ Below w9.heap.size w9 w') := Lib.hid (by rw [← hz]; exact fun w9 hb => check30_any (KB.out.below hb) n)
  have F31 : Hid (∀ w9, Below W0.heap.size W0 w9 → Calls Tryz.prog 31 #[.agg #[.int .i64 k, .slice a1 n1 c1, .slice a2 n2 c2, .slice a3 n3 c3, .int .i64 rel, .int .i64 bd, .slice a6 n6 c6], .int .i64 n] w9 fun e w' => e = .returned (.int .i64 z) ∧ Below w9.heap.size w9 w') := Lib.hid (by rw [← hz]; exact fun w9 hb => fault31_any (KB.out.below hb) n)
  have LA := Lib.hid labelled_ok
  clear hzb hze hz KB HV vl hcv hcu
  have zz : (z == z) = true := by simp
  have ze2 : (ze == ze) = true := by simp
  have zb2 : (zb == zb) = true := by simp
  go_enter Tryz.func9, Tryz.ntmps9
  go_upto_region 2 with (go_at_call 28; refine S28.out.mono ?_; rintro e W2 ⟨rfl, hb⟩; have B2 := Lib.hid hb; clear hb)
  replace p0 := cell_later B2.out (Nat.le_refl _) p0
  replace p1 := cell_later B2.out (Nat.le_refl _) p1
  replace p2 := cell_later B2.out (Nat.le_refl _) p2
  replace p3 := cell_later B2.out (Nat.le_refl _) p3
  replace p4 := cell_later B2.out (Nat.le_refl _) p4
  replace p5 := cell_later B2.out (Nat.le_refl _) p5
  replace p6 := cell_later B2.out (Nat.le_refl _) p6
  go_upto_region 3 with (go_at_call 29; refine (S29.out _ B2.out).mono ?_; rintro e W3 ⟨rfl, hb⟩; have B3 := Lib.hid hb; clear hb)
  replace p0 := cell_later B3.out (Nat.le_refl _) p0
  replace p1 := cell_later B3.out (Nat.le_refl _) p1
  replace p2 := cell_later B3.out (Nat.le_refl _) p2
  replace p3 := cell_later B3.out (Nat.le_refl _) p3
  replace p4 := cell_later B3.out (Nat.le_refl _) p4
  replace p5 := cell_later B3.out (Nat.le_refl _) p5
  replace p6 := cell_later B3.out (Nat.le_refl _) p6
  refine Rg.s0 20 [] fun WD DW => ?_
  have BD : Hid (Below W0.heap.size W0 WD) := Lib.hid (over (over B2.out B3.out) DW)
  refine Rg.t 0 ?_
  refine Rg.t 1 ?_
  refine Rg.t 3 ?_
  refine Rg.t 4 ?_
  refine Rg.c1 2 fun K' hK => ?_
  go_simp
  go_at_call 30
  refine (C30.out _ BD.out).mono ?_
  rintro e w4 ⟨rfl, hb⟩
  have D4 := over DW hb
  have B4 := Lib.hid (over BD.out hb)
  clear hb
  refine Rg.e1 hK D4 ?_
  clear hK K'
  refine Rg.c1 5 fun K' hK => ?_
  go_simp
  go_at_call 31
  refine (F31.out _ B4.out).mono ?_
  rintro e w5 ⟨rfl, hb⟩
  have D5 := over D4 hb
  have B5 := Lib.hid (over B4.out hb)
  clear hb
  refine Rg.e1 hK D5 ?_
  clear hK K'
  refine Rg.t 6 ?_
  refine Rg.t 7 ?_
  go_simp
  refine Rg.t 8 ?_
  refine Rg.t 9 ?_
  refine Rg.t 10 ?_
  refine Rg.t 11 ?_
  refine Rg.t 12 ?_
  go_simp
  refine Rg.t 13 ?_
  refine Rg.t 14 ?_
  refine Rg.t 15 ?_
  refine Rg.t 16 ?_
  refine Rg.t 17 ?_
  go_simp
  refine Rg.c1 18 fun K' hK => ?_
  go_simp
  go_at_call 14
  refine (LA.out _).mono ?_
  rintro e w6 ⟨rfl, hb⟩
  have D6 := over D5 hb
  have B6 := Lib.hid (over B5.out hb)
  clear hb
  refine Rg.e1 hK D6 ?_
  clear hK K'
  refine Rg.t 19 ?_
  refine Rg.l1 ?_
  go_simp
  go_wp2_with fail
  go_ret
  exact ⟨rfl, over B0.out B6.out⟩
end Go.Proofs.YteiohgiecpibhaaGreat
set_option linter.unusedVariables false
set_option linter.unusedSimpArgs false
set_option maxRecDepth 100000
set_option maxHeartbeats 4000000
namespace Go.Proofs.YteiohgiecpibhaaGreat
open Go.Joins Go.ChangeShapes Go.WideShapes Go.RowKit Go.Deep Fdm

section
variable {H : Type} {enc : TypeId × Value → H} {P : Program} {w : World} {base : Nat} {spare : Nat → Bool} {held : Bool}
theorem open_agg7 {r : Reach} {b0 : Nat} {t : TypeId} {f0 f1 f2 f3 f4 f5 f6 : Field} {v : Value} {d : DataW H} {p : List MemPlace} (hs : P.underlying t = some (.struct #[f0, f1, f2, f3, f4, f5, f6])) (hone : oneCellFields P #[f0, f1, f2, f3, f4, f5, f6] = true) (hC : P.cellsOf t = 7)
    (hv : Value.okWide P w r b0 t v) (h : DataW.Trod enc P w base spare held t v d p) :
    ∃ (v0 v1 v2 v3 v4 v5 v6 : Value) (y0 y1 y2 y3 y4 y5 y6 : DataW H × List MemPlace) (n : Nat), v = .agg #[v0, v1, v2, v3, v4, v5, v6] ∧
      DataW.trod enc P w base spare held n f0.type [v0] = some y0 ∧ DataW.trod enc P w base spare held n f1.type [v1] = some y1 ∧ DataW.trod enc P w base spare held n f2.type [v2] = some y2 ∧ DataW.trod enc P w base spare held n f3.type [v3] = some y3 ∧ DataW.trod enc P w base spare held n f4.type [v4] = some y4 ∧ DataW.trod enc P w base spare held n f5.type [v5] = some y5 ∧ DataW.trod enc P w base spare held n f6.type [v6] = some y6 := by
  obtain ⟨cs, rfl, hsz⟩ := okWide_struct hs hv
  obtain ⟨l⟩ := cs
  match l, hsz.trans hC with
  | [c0, c1, c2, c3, c4, c5, c6], _ =>
    obtain ⟨fuel, hf⟩ := h
    obtain ⟨xs, n, _, hx, _, hlen, hg⟩ := DataW.trod_struct hs hf
    obtain ⟨o0, k0⟩ := hone_of hone 0 f0 rfl
    obtain ⟨o1, k1⟩ := hone_of hone 1 f1 rfl
    obtain ⟨o2, k2⟩ := hone_of hone 2 f2 rfl
    obtain ⟨o3, k3⟩ := hone_of hone 3 f3 rfl
    obtain ⟨o4, k4⟩ := hone_of hone 4 f4 rfl
    obtain ⟨o5, k5⟩ := hone_of hone 5 f5 rfl
    obtain ⟨o6, k6⟩ := hone_of hone 6 f6 rfl
    match xs, hlen with
    | [y0, y1, y2, y3, y4, y5, y6], _ =>
      exact ⟨c0, c1, c2, c3, c4, c5, c6, y0, y1, y2, y3, y4, y5, y6, n, rfl, by simpa [Value.cells, o0, k0] using hg 0 f0 rfl, by simpa [Value.cells, o1, k1] using hg 1 f1 rfl, by simpa [Value.cells, o2, k2] using hg 2 f2 rfl, by simpa [Value.cells, o3, k3] using hg 3 f3 rfl, by simpa [Value.cells, o4, k4] using hg 4 f4 rfl, by simpa [Value.cells, o5, k5] using hg 5 f5 rfl, by simpa [Value.cells, o6, k6] using hg 6 f6 rfl⟩
end
theorem cells30 : Tryz.prog.cellsOf 30 = 1 := by kernel_rfl
theorem cells33 : Tryz.prog.cellsOf 33 = 7 := by kernel_rfl
section
variable {H : Type} {enc : TypeId × Value → H} {W : World} {sp : Nat → Bool} {hd : Bool}
theorem tuples_read {fuel : Nat} {v : Value} {x : DataW H × List MemPlace} (h : DataW.trod enc Tryz.prog W 0 sp hd fuel 31 [v] = some x) : ∃ (T : List (List Int)) (a : Option Addr) (n c : Nat), v = .slice a n c ∧ TuA W T a ∧ Rm T.length n c := by
  rcases Deep.open_slice Tryz.underlying31 h with ⟨e2, _⟩ | ⟨a, len, cap, m, n', D, Pl, e2, _, hlc, hcm, hm, _, hD⟩
  · simp at e2
    exact ⟨[], none, 0, 0, e2, fun q => absurd rfl q, rfl, Nat.le_refl _, by omega⟩
  · simp at e2
    have hml : len ≤ m := by rw [hm]; split <;> omega
    rw [cells30] at hD
    have each : ∀ i, i < len → ∃ q : List Int × Option Addr × Nat, W.cells? 0 (a.add (i * 1)) 1 = some [.slice q.2.1 q.1.length q.2.2] ∧ InA W q.1 q.2.1 ∧ q.1.length ≤ q.2.2 ∧ q.2.2 ≤ 9223372036854775807 := by
      intro i hi
      obtain ⟨cs', hc, ht⟩ := hD i (by omega)
      have hl := (World.cells?_some hc).2.1
      match cs', hl with
      | [u], _ =>
        obtain ⟨l, a1, n1, c1, rfl, k1, k2, k3, k4⟩ := ints_read ht
        subst k2
        exact ⟨(l, a1, c1), hc, k1, k3, k4⟩
    obtain ⟨q, hq⟩ := Deep.choose_lt each
    unfold maxLen at hcm
    refine ⟨(List.range len).map (fun i => (q i).1), some a, len, cap, e2, ?_, by simp, hlc, by omega⟩
    intro hne
    have hpos : 0 < len := by
      have := List.length_pos_iff.2 hne
      simpa using this
    obtain ⟨b, o, spot⟩ := a
    have at1 : ∀ i, i < len → (i = 0 → spot = none) ∧ W.cell? ⟨b, o + i, none⟩ = some (.slice (q i).2.1 (q i).1.length (q i).2.2) := fun i hi => by
      obtain ⟨_, _, hc⟩ := World.cells?_some (hq i hi).1
      have h0 := hc 0 (by omega)
      rw [Deep.add_add] at h0
      obtain ⟨s, h0⟩ := one_spot h0
      exact ⟨fun e => s (by omega), by simpa using h0⟩
    have hs := (at1 0 hpos).1 rfl
    subst hs
    refine ⟨b, o, rfl, fun i hi => ?_⟩
    have hi' : i < len := by simpa using hi
    have e : ((List.range len).map (fun i => (q i).1)).getD i [] = (q i).1 := by
      rw [List.getD_eq_getElem?_getD]
      simp [hi']
    rw [e]
    exact ⟨(q i).2.1, (q i).2.2, (at1 i hi').2, (hq i hi').2.1, (hq i hi').2.2.1, (hq i hi').2.2.2⟩
theorem con_read {r : Reach} {b0 : Nat} {v : Value} {d : DataW H} {p : List MemPlace} (hv : Value.okWide Tryz.prog W r b0 33 v) (h : DataW.Trod enc Tryz.prog W 0 sp hd 33 v d p) :
    ∃ (c : Con) (a1 a2 a3 a6 : Option Addr) (n1 c1 n2 c2 n3 c3 n6 c6 : Nat), v = .agg #[.int .i64 c.kind, .slice a1 n1 c1, .slice a2 n2 c2, .slice a3 n3 c3, .int .i64 c.rel, .int .i64 c.bound, .slice a6 n6 c6] ∧ Ka W c a1 n1 c1 a2 n2 c2 a3 n3 c3 a6 n6 c6 := by
  obtain ⟨v0, v1, v2, v3, v4, v5, v6, y0, y1, y2, y3, y4, y5, y6, n, rfl, h0, h1, h2, h3, h4, h5, h6⟩ := open_agg7 Tryz.underlying33 (by kernel_rfl) cells33 hv h
  obtain ⟨k, e0, _, _⟩ := DataW.trod_int Tryz.underlying3 h0
  obtain ⟨rel, e4, _, _⟩ := DataW.trod_int Tryz.underlying3 h4
  obtain ⟨bd, e5, _, _⟩ := DataW.trod_int Tryz.underlying3 h5
  obtain ⟨V, a1, n1, c1, rfl, i1, l1, r1, u1⟩ := ints_read h1
  obtain ⟨F, a2, n2, c2, rfl, i2, l2, r2, u2⟩ := ints_read h2
  obtain ⟨D, a3, n3, c3, rfl, i3, l3, r3, u3⟩ := ints_read h3
  obtain ⟨T, a6, n6, c6, rfl, i6, r6⟩ := tuples_read h6
  simp at e0 e4 e5
  subst e0 e4 e5
  exact ⟨⟨k, V, F, D, rel, bd, T⟩, a1, a2, a3, a6, n1, c1, n2, c2, n3, c3, n6, c6, rfl, ⟨i1, ⟨l1, r1, u1⟩, i2, ⟨l2, r2, u2⟩, i3, ⟨l3, r3, u3⟩, i6, r6⟩⟩
end
end Go.Proofs.YteiohgiecpibhaaGreat
