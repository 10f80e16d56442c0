/- New, Var, CheckConstraint at one constraint. -/
import Derived.Test.YteiohgiecpibhaaGreatMH
import Derived.ArgAppend
set_option linter.unusedVariables false
set_option linter.unusedSimpArgs false
set_option maxRecDepth 100000
set_option maxHeartbeats 4000000
namespace Go.Proofs.YteiohgiecpibhaaGreat
open Go.RowKit Fdm

theorem DsK.nil_or {w : World} {D : List Dm} {a : Option Addr} {n : Nat} (h : DsK w D a) (hn : D.length = n) : ∃ vs : List Value, vs.length = n ∧ (∀ i, i < n → ∃ u, vs[i]? = some u ∧ DmV w (dm D i) u) ∧ (n ≠ 0 → ∃ g o, a = some ⟨g, o, none⟩ ∧ ∀ j u, vs[j]? = some u → w.cell? ⟨g, o + j, none⟩ = some u) := by
  subst hn
  by_cases h0 : D = []
  · subst h0
    exact ⟨[], rfl, fun i hi => absurd hi (Nat.not_lt_zero _), fun q => absurd rfl q⟩
  · obtain ⟨g, o, e, k⟩ := h.a h0
    obtain ⟨vs, hl, hp⟩ := list_of k
    refine ⟨vs, hl, fun i hi => ?_, fun _ => ⟨g, o, e, fun j u hu => ?_⟩⟩
    · obtain ⟨u, h1, h2, h3⟩ := hp i hi
      exact ⟨u, h1, h3⟩
    · obtain ⟨x, h1, h2, _⟩ := hp j (by rw [← hl]; exact (List.getElem?_eq_some_iff.1 hu).1)
      rw [h1] at hu
      rw [← Option.some.inj hu]; exact h2
theorem dm_old {D : List Dm} {d : Dm} {i : Nat} (h : i < D.length) : dm (D ++ [d]) i = dm D i := by
  show (D ++ [d]).getD i [] = D.getD i []
  rw [List.getD_eq_getElem?_getD, List.getD_eq_getElem?_getD, List.getElem?_append_left h]
theorem dm_new {D : List Dm} {d : Dm} : dm (D ++ [d]) D.length = d := by
  show (D ++ [d]).getD D.length [] = d
  rw [List.getD_eq_getElem?_getD, List.getElem?_append_right (Nat.le_refl _), Nat.sub_self]; rfl
theorem wpList_pushDs {ops : Array Oper} {rest : List Oper} {o : Oper} {a : Act} {Q : Exit → Act → World → Prop} {w : World} (hgd : o.guard = none) (s x : Operand)
    (ho : o.op = .call { callee := .builtin .append, args := #[s, x], argTypes := #[28, 28] })
    (w1 : World) (a0 : Option Addr) (n : Nat) (D : List Dm) (d : Dm) (u : Value) (hw : w = w1.alloc (.cells #[u] 23)) (hs : a.eval s = .slice a0 n n) (hx : a.eval x = .slice (some ⟨w1.heap.size, 0, none⟩) 1 1)
    (hn : D.length = n) (hD : DsK w1 D a0) (hu : DmV w1 d u) (hl : n ≤ 1000) (hnone : a0 = none → n = 0)
    (h : ∀ g c w', n + 1 ≤ c → c ≤ 9223372036854775807 → DsK w' (D ++ [d]) (some ⟨g, 0, none⟩) → Below w1.heap.size w1 w' → wpList Tryz.prog ops Q rest (a.put o.dst (.slice (some ⟨g, 0, none⟩) (n + 1) c)) w') : wpList Tryz.prog ops Q (o :: rest) a w := by
  subst hw
  obtain ⟨i0, hi0, hz0, hz1, hz2⟩ := info_parts info23
  have bn := below_new w1 (.cells #[u] 23)
  obtain ⟨vs, v1, v2, v3⟩ := (hD.below bn).nil_or hn
  refine wpList_append_grows _ hgd s x 28 ho 23 i0 _ 1 24 Tryz.underlying28 hi0 hz0 hz1 hz2 rfl (by omega) a0 n n vs hs (fun e => ⟨hnone e, hnone e⟩) (by omega) ?_ ⟨w1.heap.size, 0, none⟩ 1 1 [u] hx rfl ?_ ?_ (by omega) (by unfold maxLen; omega) (by omega) ?_
  · intro b hb j z hz
    have hj : j < vs.length := (List.getElem?_eq_some_iff.1 hz).1
    obtain ⟨g, o', e, k⟩ := v3 (by omega)
    rw [hb] at e
    rw [Option.some.inj e, add_at]
    exact k j z hz
  · intro j z hz
    have hh := heap_alloc_new w1 (.cells #[u] 23)
    rw [add_at, Nat.zero_add, cell_of_row _ _ j _ _ _ hh]
    simpa using hz
  · intro z hz
    simp at hz
    subst hz; exact hu.one
  · intro v' w' h1 h2
    have gb := over bn (below_grown h2)
    have ub := hu.below gb
    rcases h1.2 with ⟨_, h0⟩ | ⟨g, cap, cur, rfl, hb, hg, hnc, hcm, hcs, htake⟩
    · omega
    · refine h g cap w' hnc (by unfold maxLen at hcm; omega) (fun _ => ⟨g, 0, rfl, ⟨_, hg⟩, fun i hi => ?_⟩) gb
      have cs : ∀ j, j < (vs ++ [u]).length → w'.cell? ⟨g, 0 + j, none⟩ = (vs ++ [u])[j]? := fun j hj => by
        have := h1.cellAt (g := g) (j := j) (by simp at hj; omega)
        simpa using this
      rw [List.length_append, List.length_singleton] at hi
      by_cases e : i < D.length
      · obtain ⟨z, p, q⟩ := v2 i (by omega)
        refine ⟨z, (cs i (by rw [List.length_append, List.length_singleton]; omega)).trans (by rw [List.getElem?_append_left (by omega)]; exact p), ?_⟩
        rw [dm_old e]; exact q.below (below_grown h2)
      · obtain rfl : i = D.length := by omega
        refine ⟨u, (cs _ (by rw [List.length_append, List.length_singleton]; omega)).trans (by rw [List.getElem?_append_right (by omega), v1, hn, Nat.sub_self]; rfl), ?_⟩
        rw [dm_new]; exact ub
end Go.Proofs.YteiohgiecpibhaaGreat
set_option linter.unusedVariables false
set_option linter.unusedSimpArgs false
set_option maxRecDepth 100000
set_option maxHeartbeats 4000000
namespace Go.Proofs.YteiohgiecpibhaaGreat
open Go.RowKit Fdm

/-- A store in memory. -/
structure StoB (w : World) (p : Nat) (D : List Dm) (P : List Con) : Prop where
  ex : ∃ a c pa pc m0 m1 m2, w.heap[p]? = some (.cells #[.slice a D.length c, .slice pa P.length pc, .slice m0 m1 m2] 89 (0, 0)) ∧ D.length ≤ c ∧ c ≤ 9223372036854775807 ∧ P.length ≤ pc ∧ pc ≤ 9223372036854775807 ∧ DsK w D a ∧ PsV w P (.slice pa P.length pc)
theorem new_any (w : World) : Calls Tryz.prog 37 #[] w fun e w' => e = .returned (.pointer (some ⟨w.heap.size, 0, none⟩)) ∧ StoB w' w.heap.size [] [] ∧ Below w.heap.size w w' := by
  go_enter Tryz.func37, Tryz.ntmps37
  go_wp2_with fail
  go_ret
  exact ⟨rfl, ⟨none, 0, none, 0, none, 0, 0, heap_alloc_new _ _, Nat.le_refl _, by omega, Nat.le_refl _, by omega, fun h => absurd rfl h, ⟨none, 0, rfl, Nat.le_refl _, by omega, fun h => absurd rfl h⟩⟩, below_new _ _⟩
theorem row3 {w : World} {g : Nat} {c0 c1 c2 x : Value} {t : Nat} (h : w.heap[g]? = some (.cells #[c0, c1, c2] t (0, 0))) : (w.setCell ⟨g, 0, none⟩ x).heap[g]? = some (.cells #[x, c1, c2] t (0, 0)) := by
  simp [World.setCell, Array.getElem?_modify, h]
theorem DsK.kx {t : Nat} {w w' : World} {D : List Dm} {a : Option Addr} (h : DsK w D a) (k : KpX t w w') (h1 : 63 ≠ t) (h2 : 23 ≠ t) : DsK w' D a := fun hne => by
  obtain ⟨g, o, e, b, q⟩ := h hne
  have z := k g 23 b h2
  exact ⟨g, o, e, b.keep z, fun i hi => by obtain ⟨u, p, r⟩ := q i hi; exact ⟨u, (cells_same z _).trans p, r.kpx k h1⟩⟩
theorem PsV.kx {t : Nat} {w w' : World} {P : List Con} {v : Value} (h : PsV w P v) (k : KpX t w w') (h1 : 3 ≠ t) (h2 : 30 ≠ t) (h3 : 33 ≠ t) : PsV w' P v := by
  obtain ⟨a, c, e, l1, l2, q⟩ := h.ex
  refine ⟨a, c, e, l1, l2, fun hne => ?_⟩
  obtain ⟨g, o, e, b, q⟩ := q hne
  have z := k g 33 b h3
  refine ⟨g, o, e, b.keep z, fun i hi => ?_⟩
  obtain ⟨x1, x2, x3, x6, p0, p1, p2, p3, p4, p5, p6, r⟩ := q i hi
  exact ⟨x1, x2, x3, x6, (cells_same z _).trans p0, (cells_same z _).trans p1, (cells_same z _).trans p2, (cells_same z _).trans p3, (cells_same z _).trans p4, (cells_same z _).trans p5, (cells_same z _).trans p6, r.kpx k h1 h2⟩
theorem PsV.below {w w' : World} {P : List Con} {v : Value} (h : PsV w P v) (hb : Below w.heap.size w w') : PsV w' P v := h.kx (t := 1000) (fun b ty x _ => hb.block b x.lt) (by decide) (by decide) (by decide)
def VaPost (w : World) (p : Nat) (D : List Dm) (P : List Con) (e : Ending) (w' : World) (d : Dm) : Prop := e = .returned (.tuple #[.int .i64 (D.length : Int), .int .i64 0]) ∧ StoB w' p (D ++ [d]) P ∧ But p w w'
theorem var_any {w : World} {p : Nat} {D : List Dm} {P : List Con} {d : Dm} {da : Option Addr} {dn dc : Nat} (h : StoB w p D P) (hd : DmS w d da dn dc) (hck : chkD d = 0) (h60 : D.length < 60) : Calls Tryz.prog 38 #[.pointer (some ⟨p, 0, none⟩), .slice da dn dc] w fun e w' => VaPost w p D P e w' d := by
  obtain ⟨R, hRr⟩ : ∃ R : Ending → World → Prop, R = fun e w' => VaPost w p D P e w' d := ⟨_, rfl⟩
  rw [← hRr]
  have HR := Lib.hid hRr
  obtain ⟨a, c, pa, pc, m0, m1, m2, row, k1, k2, k3, k4, hD, hP⟩ := h.ex
  obtain ⟨n, hn⟩ : ∃ n, D.length = n := ⟨_, rfl⟩
  rw [hn] at row k1 h60
  have ROW := Lib.hid row; have DK := Lib.hid hD; have PS := Lib.hid hP; have DN := Lib.hid hn; have DS := Lib.hid hd
  have CK := check_any hd
  rw [hck] at CK
  have CK := Lib.hid CK
  have OKD := Lib.hid (ok_of_chk hck)
  have DL := Lib.hid hd.len
  clear hRr h hD hP hn hd hck row
  go_enter Tryz.func38, Tryz.ntmps38
  go_upto_region 2 with (go_at_call 12; refine CK.out.mono ?_; rintro e w2 ⟨rfl, hb⟩; have B2 := Lib.hid hb; clear hb)
  have R2 : Hid (w2.heap[p]? = some (.cells #[.slice a n c, .slice pa P.length pc, .slice m0 m1 m2] 89 (0, 0))) := (B2.out.block _ (Array.getElem?_eq_some_iff.1 ROW.out).1).trans ROW.out
  have p0 : w2.cell? ⟨p, 0, none⟩ = some (.slice a n c) := by rw [cell_of_row _ _ _ _ _ _ R2.out]; rfl
  have CL := Lib.hid (clipDs_any (w := w2) (a := a) k1 k2)
  have CN := Lib.hid (cloneD_any (DS.out.below B2.out) (by have := OKD.out.2.1; have := DL.out; omega))
  go_upto_region 6 with fail
  have HN : Hid (a = none → n = 0) := fun e => by
    by_cases q : D = []
    · rw [← DN.out, q]; rfl
    · obtain ⟨g, o, e2, _⟩ := DK.out q
      rw [e] at e2; cases e2
  go_upto_region 7 with (first
    | (go_at_call 68; refine CL.out.mono ?_; rintro e w' ⟨rfl, hw⟩; have hw := hw.symm; subst hw)
    | (go_at_call 67; refine CN.out.mono ?_; rintro e w3 ⟨v, rfl, hv, hb⟩; obtain ⟨da', dc', rfl, -⟩ := hv.s; have DV := Lib.hid hv; have B3 := Lib.hid hb; clear hv hb)
    | (at_builtin; go_loud (refine wpList_pushDs rfl _ _ rfl w3 a n D d _ rfl rfl rfl DN.out (DK.out.below (over B2.out B3.out)) DV.out (by omega) HN.out ?_; intro g5 c5 w5 q1 q2 q3 q4; have D5 := Lib.hid q3; have B5 := Lib.hid q4; have R5 : w5.heap[p]? = some (.cells #[.slice a n c, .slice pa P.length pc, .slice m0 m1 m2] 89 (0, 0)) := (B5.out.block p (by have := (Array.getElem?_eq_some_iff.1 R2.out).1; have := B3.out.size; omega)).trans ((B3.out.block p (Array.getElem?_eq_some_iff.1 R2.out).1).trans R2.out); have R5H := Lib.hid R5; have p5 : w5.cell? ⟨p, 0, none⟩ = some (.slice a n c) := (by rw [cell_of_row _ _ _ _ _ _ R5]; rfl); have fz0 : w5.frozen? ⟨p, 0, none⟩ = false := (by simp [World.frozen?, R5]); clear R5 q3 q4)))
  obtain ⟨w6, hw6⟩ : ∃ w6, w5.setCell ⟨p, 0, none⟩ (.slice (some ⟨g5, 0, none⟩) (n + 1) c5) = w6 := ⟨_, rfl⟩
  have R6 : Hid (w6.heap[p]? = some (.cells #[.slice (some ⟨g5, 0, none⟩) (n + 1) c5, .slice pa P.length pc, .slice m0 m1 m2] 89 (0, 0))) := by subst hw6; exact row3 R5H.out
  have W6 := Lib.hid hw6
  have p6 : w6.cell? ⟨p, 0, none⟩ = some (.slice (some ⟨g5, 0, none⟩) (n + 1) c5) := by rw [cell_of_row _ _ _ _ _ _ R6.out]; rfl
  try rw [hw6]
  clear hw6
  go_wp2_with fail
  rw [HR.out]
  have lt := (Array.getElem?_eq_some_iff.1 ROW.out).1
  have k6 : KpX 89 w5 w6 := by rw [← W6.out]; exact (But.setCell p w5 0 _).kpx ⟨_, R5H.out⟩
  refine ⟨by rw [DN.out]; simp, ⟨_, c5, pa, pc, m0, m1, m2, by rw [List.length_append, List.length_singleton, DN.out]; exact R6.out, by rw [List.length_append, List.length_singleton, DN.out]; exact q1, q2, k3, k4, D5.out.kx k6 (by decide) (by decide), (((PS.out.below B2.out).below B3.out).below B5.out).kx k6 (by decide) (by decide) (by decide)⟩, ?_⟩
  refine (But.of_below (over (over B2.out B3.out) B5.out)).trans ?_
  rw [← W6.out]; exact But.setCell p w5 0 _
end Go.Proofs.YteiohgiecpibhaaGreat
set_option linter.unusedVariables false
set_option linter.unusedSimpArgs false
set_option maxRecDepth 100000
set_option maxHeartbeats 4000000
namespace Go.Proofs.YteiohgiecpibhaaGreat
open Go.RowKit Fdm

def exV (g : Nat) : Value := .agg #[.int .i64 3, .slice (some ⟨g, 0, none⟩) 2 2, .slice none 0 0, .slice none 0 0, .int .i64 0, .int .i64 0, .slice none 0 0]
def exS : Value := .agg #[.int .i64 1, .int .i64 16, .bool false, .bool false, .bool false, .bool false, .bool false]
theorem shape3 (w : World) : Calls Tryz.prog 55 #[.int .i64 3] w fun e w' => e = .returned (.tuple #[exS, .bool true]) ∧ Below w.heap.size w w' := by
  go_enter Tryz.func55, Tryz.ntmps55
  go_wp2_with fail
  exact bodyPost_ret (v := .tuple #[exS, .bool true]) (by simp [results, Tryz.results55, go_sem, exS]) rfl ⟨rfl, below_new _ _⟩
theorem index108_nil (f : Value) (w : World) : Calls Tryz.prog 108 #[.slice none 0 0, f] w fun e w' => e = .returned (.int .i64 (-1)) ∧ w' = w := by
  go_enter Tryz.func108, Tryz.ntmps108
  go_wp2_with fail
  refine wp_loop_rounds 1 ?_
  rw [rounds_succ]
  go_wp2_with fail
  go_ret
  exact ⟨rfl, rfl⟩
theorem contains81_nil (f : Value) (w : World) : Calls Tryz.prog 81 #[.slice none 0 0, f] w fun e w' => e = .returned (.bool false) ∧ w' = w := by
  have C := Lib.hid (index108_nil f w)
  go_enter Tryz.func81, Tryz.ntmps81
  go_wp2_with (go_at_call 108; refine C.out.mono ?_; rintro e w' ⟨rfl, hw⟩; have hw := hw.symm; subst hw)
  go_ret
  exact ⟨rfl, rfl⟩
theorem form3 (g : Nat) (w : World) : Calls Tryz.prog 57 #[exV g, exS] w fun e w' => e = .returned (.bool true) ∧ Below w.heap.size w w' := by
  unfold exV exS
  have CA := Lib.hid (contains81_nil)
  go_enter Tryz.func57, Tryz.ntmps57
  go_wp2_with (go_at_call 81; refine (CA.out _ _).mono ?_; rintro e w' ⟨rfl, hw⟩; have hw := hw.symm; subst hw)
  go_ret
  exact ⟨rfl, (alloc2 w _ _).2.2.1⟩
theorem ranges3 (g : Nat) (w : World) : Calls Tryz.prog 58 #[exV g, exS] w fun e w' => e = .returned (.bool true) ∧ Below w.heap.size w w' := by
  unfold exV exS
  go_enter Tryz.func58, Tryz.ntmps58
  go_wp2_with fail
  refine wp_loop_rounds 1 ?_
  rw [rounds_succ]
  go_wp2_with fail
  refine wp_loop_rounds 1 ?_
  rw [rounds_succ]
  go_wp2_with fail
  refine wp_loop_rounds 1 ?_
  rw [rounds_succ]
  go_wp2_with fail
  go_ret
  exact ⟨rfl, (alloc2 w _ _).2.2.1⟩
theorem check3 {g : Nat} {w : World} (h0 : w.cell? ⟨g, 0, none⟩ = some (.int .i64 0)) (h1 : w.cell? ⟨g, 1, none⟩ = some (.int .i64 1)) : Calls Tryz.prog 30 #[exV g, .int .i64 2] w fun e w' => e = .returned (.int .i64 0) ∧ Below w.heap.size w w' := by
  have SH := Lib.hid shape3
  have FM := Lib.hid (form3 g)
  have RG := Lib.hid (ranges3 g)
  obtain ⟨w1, hw1⟩ : ∃ w1, (w.alloc (.cells #[.int .i64 3, .slice (some ⟨g, 0, none⟩) 2 2, .slice none 0 0, .slice none 0 0, .int .i64 0, .int .i64 0, .slice none 0 0] 33)) = w1 := ⟨_, rfl⟩
  have B1 : Hid (Below w.heap.size w w1) := by show _; rw [← hw1]; exact below_new _ _
  have I1 : Hid (w1.heap[w.heap.size]? = some (.cells #[.int .i64 3, .slice (some ⟨g, 0, none⟩) 2 2, .slice none 0 0, .slice none 0 0, .int .i64 0, .int .i64 0, .slice none 0 0] 33 (0, 0))) := by show _; rw [← hw1]; exact heap_alloc_new _ _
  have H0 := Lib.hid h0; have H1 := Lib.hid h1
  unfold exV at *
  unfold exS at *
  clear h0 h1
  go_enter Tryz.func30, Tryz.ntmps30
  go_upto_region 1 with fail
  try rw [hw1]
  have b0 : w1.cell? ⟨w.heap.size, 0, none⟩ = some (.int .i64 3) := by rw [cell_of_row _ _ _ _ _ _ I1.out]; rfl
  clear hw1
  go_upto_region 2 with (go_at_call 55; refine (SH.out _).mono ?_; rintro e w2 ⟨rfl, hb⟩; have B2 := Lib.hid hb; clear hb)
  obtain ⟨w3, hw3⟩ : ∃ w3, (w2.alloc (.cells #[.int .i64 1, .int .i64 16, .bool false, .bool false, .bool false, .bool false, .bool false] 78)) = w3 := ⟨_, rfl⟩
  have B3 : Hid (Below w2.heap.size w2 w3) := by show _; rw [← hw3]; exact below_new _ _
  have I3 : Hid (w3.heap[w2.heap.size]? = some (.cells #[.int .i64 1, .int .i64 16, .bool false, .bool false, .bool false, .bool false, .bool false] 78 (0, 0))) := by show _; rw [← hw3]; exact heap_alloc_new _ _
  have BB : Hid (Below w.heap.size w w3) := over (over B1.out B2.out) B3.out
  have J1 : Hid (w3.heap[w.heap.size]? = some (.cells #[.int .i64 3, .slice (some ⟨g, 0, none⟩) 2 2, .slice none 0 0, .slice none 0 0, .int .i64 0, .int .i64 0, .slice none 0 0] 33 (0, 0))) := by
    have e1 := B2.out.block w.heap.size (Array.getElem?_eq_some_iff.1 I1.out).1
    exact (B3.out.block _ (Array.getElem?_eq_some_iff.1 (e1.trans I1.out)).1).trans (e1.trans I1.out)
  try rw [hw3]
  clear hw3
  have c0 : w3.cell? ⟨w.heap.size, 0, none⟩ = some (.int .i64 3) := by rw [cell_of_row _ _ _ _ _ _ J1.out]; rfl
  have c1 : w3.cell? ⟨w.heap.size, 1, none⟩ = some (.slice (some ⟨g, 0, none⟩) 2 2) := by rw [cell_of_row _ _ _ _ _ _ J1.out]; rfl
  have c2 : w3.cell? ⟨w.heap.size, 2, none⟩ = some (.slice none 0 0) := by rw [cell_of_row _ _ _ _ _ _ J1.out]; rfl
  have c3 : w3.cell? ⟨w.heap.size, 3, none⟩ = some (.slice none 0 0) := by rw [cell_of_row _ _ _ _ _ _ J1.out]; rfl
  have c4 : w3.cell? ⟨w.heap.size, 4, none⟩ = some (.int .i64 0) := by rw [cell_of_row _ _ _ _ _ _ J1.out]; rfl
  have c5 : w3.cell? ⟨w.heap.size, 5, none⟩ = some (.int .i64 0) := by rw [cell_of_row _ _ _ _ _ _ J1.out]; rfl
  have c6 : w3.cell? ⟨w.heap.size, 6, none⟩ = some (.slice none 0 0) := by rw [cell_of_row _ _ _ _ _ _ J1.out]; rfl
  have d0 : w3.cell? ⟨w2.heap.size, 0, none⟩ = some (.int .i64 1) := by rw [cell_of_row _ _ _ _ _ _ I3.out]; rfl
  have d1 : w3.cell? ⟨w2.heap.size, 1, none⟩ = some (.int .i64 16) := by rw [cell_of_row _ _ _ _ _ _ I3.out]; rfl
  have d2 : w3.cell? ⟨w2.heap.size, 2, none⟩ = some (.bool false) := by rw [cell_of_row _ _ _ _ _ _ I3.out]; rfl
  have d3 : w3.cell? ⟨w2.heap.size, 3, none⟩ = some (.bool false) := by rw [cell_of_row _ _ _ _ _ _ I3.out]; rfl
  have d4 : w3.cell? ⟨w2.heap.size, 4, none⟩ = some (.bool false) := by rw [cell_of_row _ _ _ _ _ _ I3.out]; rfl
  have d5 : w3.cell? ⟨w2.heap.size, 5, none⟩ = some (.bool false) := by rw [cell_of_row _ _ _ _ _ _ I3.out]; rfl
  have d6 : w3.cell? ⟨w2.heap.size, 6, none⟩ = some (.bool false) := by rw [cell_of_row _ _ _ _ _ _ I3.out]; rfl
  have g0 : w3.cell? ⟨g, 0, none⟩ = some (.int .i64 0) := cell_later BB.out (Nat.le_refl _) H0.out
  have g1 : w3.cell? ⟨g, 1, none⟩ = some (.int .i64 1) := cell_later BB.out (Nat.le_refl _) H1.out
  have K0 := Lib.hid (contains_any (l := []) (a := some ⟨g, 0, none⟩) (n := 0) (c := 2) (w := w3) 0 (fun h => absurd rfl h) rfl (by omega) (by omega))
  have K1 := Lib.hid (contains_any (l := [0]) (a := some ⟨g, 0, none⟩) (n := 1) (c := 2) (w := w3) 1 (fun _ => ⟨g, 0, rfl, fun i hi => by (have : i = 0 := by simpa using hi); subst this; exact g0⟩) rfl (by omega) (by omega))
  go_wp2_with fail
  refine wp_loop_rounds 3 ?_
  rw [rounds_succ]
  go_wp2_with (go_at_call 56; refine K0.out.mono ?_; rintro e w' ⟨rfl, hw⟩; have hw := hw.symm; subst hw)
  rw [rounds_succ]
  go_wp2_with (go_at_call 56; refine K1.out.mono ?_; rintro e w' ⟨rfl, hw⟩; have hw := hw.symm; subst hw)
  rw [rounds_succ]
  go_upto_region 16 with (go_at_call 57; refine (FM.out _).mono ?_; rintro e w4 ⟨rfl, hb⟩; have B4 := Lib.hid hb; clear hb)
  have c0' := cell_later B4.out (Nat.le_refl _) c0
  have c1' := cell_later B4.out (Nat.le_refl _) c1
  have c2' := cell_later B4.out (Nat.le_refl _) c2
  have c3' := cell_later B4.out (Nat.le_refl _) c3
  have c4' := cell_later B4.out (Nat.le_refl _) c4
  have c5' := cell_later B4.out (Nat.le_refl _) c5
  have c6' := cell_later B4.out (Nat.le_refl _) c6
  have d0' := cell_later B4.out (Nat.le_refl _) d0
  have d1' := cell_later B4.out (Nat.le_refl _) d1
  have d2' := cell_later B4.out (Nat.le_refl _) d2
  have d3' := cell_later B4.out (Nat.le_refl _) d3
  have d4' := cell_later B4.out (Nat.le_refl _) d4
  have d5' := cell_later B4.out (Nat.le_refl _) d5
  have d6' := cell_later B4.out (Nat.le_refl _) d6
  go_wp2_with (go_at_call 58; refine (RG.out _).mono ?_; rintro e w5 ⟨rfl, hb⟩; have B5 := Lib.hid hb; clear hb)
  go_ret
  exact ⟨rfl, over (over BB.out B4.out) B5.out⟩
end Go.Proofs.YteiohgiecpibhaaGreat
