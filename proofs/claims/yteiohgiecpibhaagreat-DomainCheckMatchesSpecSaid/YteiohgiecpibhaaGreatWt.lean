/- domain.New and Var. -/
import Derived.Test.YteiohgiecpibhaaGreatWta
set_option linter.unusedVariables false
set_option linter.unusedSimpArgs false
set_option maxRecDepth 100000
set_option maxHeartbeats 4000000
namespace Go.Proofs.YteiohgiecpibhaaGreat
open Go.RowKit Fdm

/-- A store in memory. -/
structure StoB (w : World) (p : Nat) (D : List Dm) (P : List Con) : Prop where
  ex : ∃ a c pa pc m0 m1 m2, w.heap[p]? = some (.cells #[.slice a D.length c, .slice pa P.length pc, .slice m0 m1 m2] 89 (0, 0)) ∧ D.length ≤ c ∧ c ≤ 9223372036854775807 ∧ P.length ≤ pc ∧ pc ≤ 9223372036854775807 ∧ DsK w D a ∧ PsV w P (.slice pa P.length pc)
theorem new_any (w : World) : Calls Tryz.prog 37 #[] w fun e w' => e = .returned (.pointer (some ⟨w.heap.size, 0, none⟩)) ∧ StoB w' w.heap.size [] [] ∧ Below w.heap.size w w' := by
  go_enter Tryz.func37, Tryz.ntmps37
  go_wp2_with fail
  go_ret
  exact ⟨rfl, ⟨none, 0, none, 0, none, 0, 0, heap_alloc_new _ _, Nat.le_refl _, by omega, Nat.le_refl _, by omega, fun h => absurd rfl h, ⟨none, 0, rfl, Nat.le_refl _, by omega, fun h => absurd rfl h⟩⟩, below_new _ _⟩
theorem row3 {w : World} {g : Nat} {c0 c1 c2 x : Value} {t : Nat} (h : w.heap[g]? = some (.cells #[c0, c1, c2] t (0, 0))) : (w.setCell ⟨g, 0, none⟩ x).heap[g]? = some (.cells #[x, c1, c2] t (0, 0)) := by
  simp [World.setCell, Array.getElem?_modify, h]
theorem DsK.kx {t : Nat} {w w' : World} {D : List Dm} {a : Option Addr} (h : DsK w D a) (k : KpX t w w') (h1 : 63 ≠ t) (h2 : 23 ≠ t) : DsK w' D a := fun hne => by
  obtain ⟨g, o, e, b, q⟩ := h hne
  have z := k g 23 b h2
  exact ⟨g, o, e, b.keep z, fun i hi => by obtain ⟨u, p, r⟩ := q i hi; exact ⟨u, (cells_same z _).trans p, r.kpx k h1⟩⟩
theorem PsV.kx {t : Nat} {w w' : World} {P : List Con} {v : Value} (h : PsV w P v) (k : KpX t w w') (h1 : 3 ≠ t) (h2 : 30 ≠ t) (h3 : 33 ≠ t) : PsV w' P v := by
  obtain ⟨a, c, e, l1, l2, q⟩ := h.ex
  refine ⟨a, c, e, l1, l2, fun hne => ?_⟩
  obtain ⟨g, o, e, b, q⟩ := q hne
  have z := k g 33 b h3
  refine ⟨g, o, e, b.keep z, fun i hi => ?_⟩
  obtain ⟨x1, x2, x3, x6, p0, p1, p2, p3, p4, p5, p6, r⟩ := q i hi
  exact ⟨x1, x2, x3, x6, (cells_same z _).trans p0, (cells_same z _).trans p1, (cells_same z _).trans p2, (cells_same z _).trans p3, (cells_same z _).trans p4, (cells_same z _).trans p5, (cells_same z _).trans p6, r.kpx k h1 h2⟩
theorem PsV.below {w w' : World} {P : List Con} {v : Value} (h : PsV w P v) (hb : Below w.heap.size w w') : PsV w' P v := h.kx (t := 1000) (fun b ty x _ => hb.block b x.lt) (by decide) (by decide) (by decide)
def VaPost (w : World) (p : Nat) (D : List Dm) (P : List Con) (e : Ending) (w' : World) (d : Dm) : Prop := e = .returned (.tuple #[.int .i64 (D.length : Int), .int .i64 0]) ∧ StoB w' p (D ++ [d]) P ∧ But p w w'
theorem var_any {w : World} {p : Nat} {D : List Dm} {P : List Con} {d : Dm} {da : Option Addr} {dn dc : Nat} (h : StoB w p D P) (hd : DmS w d da dn dc) (hck : chkD d = 0) (h60 : D.length < 60) : Calls Tryz.prog 38 #[.pointer (some ⟨p, 0, none⟩), .slice da dn dc] w fun e w' => VaPost w p D P e w' d := by
  obtain ⟨R, hRr⟩ : ∃ R : Ending → World → Prop, R = fun e w' => VaPost w p D P e w' d := ⟨_, rfl⟩
  rw [← hRr]
  have HR := Lib.hid hRr
  obtain ⟨a, c, pa, pc, m0, m1, m2, row, k1, k2, k3, k4, hD, hP⟩ := h.ex
  obtain ⟨n, hn⟩ : ∃ n, D.length = n := ⟨_, rfl⟩
  rw [hn] at row k1 h60
  have ROW := Lib.hid row; have DK := Lib.hid hD; have PS := Lib.hid hP; have DN := Lib.hid hn; have DS := Lib.hid hd
  have CK := check_any hd
  rw [hck] at CK
  have CK := Lib.hid CK
  have OKD := Lib.hid (ok_of_chk hck)
  have DL := Lib.hid hd.len
  clear hRr h hD hP hn hd hck row
  go_enter Tryz.func38, Tryz.ntmps38
  go_upto_region 2 with (go_at_call 12; refine CK.out.mono ?_; rintro e w2 ⟨rfl, hb⟩; have B2 := Lib.hid hb; clear hb)
  have R2 : Hid (w2.heap[p]? = some (.cells #[.slice a n c, .slice pa P.length pc, .slice m0 m1 m2] 89 (0, 0))) := (B2.out.block _ (Array.getElem?_eq_some_iff.1 ROW.out).1).trans ROW.out
  have p0 : w2.cell? ⟨p, 0, none⟩ = some (.slice a n c) := by rw [cell_of_row _ _ _ _ _ _ R2.out]; rfl
  have CL := Lib.hid (clipDs_any (w := w2) (a := a) k1 k2)
  have CN := Lib.hid (cloneD_any (DS.out.below B2.out) (by have := OKD.out.2.1; have := DL.out; omega))
  go_upto_region 6 with fail
  have HN : Hid (a = none → n = 0) := fun e => by
    by_cases q : D = []
    · rw [← DN.out, q]; rfl
    · obtain ⟨g, o, e2, _⟩ := DK.out q
      rw [e] at e2; cases e2
  go_upto_region 7 with (first
    | (go_at_call 68; refine CL.out.mono ?_; rintro e w' ⟨rfl, hw⟩; have hw := hw.symm; subst hw)
    | (go_at_call 67; refine CN.out.mono ?_; rintro e w3 ⟨v, rfl, hv, hb⟩; obtain ⟨da', dc', rfl, -⟩ := hv.s; have DV := Lib.hid hv; have B3 := Lib.hid hb; clear hv hb)
    | (at_builtin; go_loud (refine wpList_pushDs rfl _ _ rfl w3 a n D d _ rfl rfl rfl DN.out (DK.out.below (over B2.out B3.out)) DV.out (by omega) HN.out ?_; intro g5 c5 w5 q1 q2 q3 q4; have D5 := Lib.hid q3; have B5 := Lib.hid q4; have R5 : w5.heap[p]? = some (.cells #[.slice a n c, .slice pa P.length pc, .slice m0 m1 m2] 89 (0, 0)) := (B5.out.block p (by have := (Array.getElem?_eq_some_iff.1 R2.out).1; have := B3.out.size; omega)).trans ((B3.out.block p (Array.getElem?_eq_some_iff.1 R2.out).1).trans R2.out); have R5H := Lib.hid R5; have p5 : w5.cell? ⟨p, 0, none⟩ = some (.slice a n c) := (by rw [cell_of_row _ _ _ _ _ _ R5]; rfl); have fz0 : w5.frozen? ⟨p, 0, none⟩ = false := (by simp [World.frozen?, R5]); clear R5 q3 q4)))
  obtain ⟨w6, hw6⟩ : ∃ w6, w5.setCell ⟨p, 0, none⟩ (.slice (some ⟨g5, 0, none⟩) (n + 1) c5) = w6 := ⟨_, rfl⟩
  have R6 : Hid (w6.heap[p]? = some (.cells #[.slice (some ⟨g5, 0, none⟩) (n + 1) c5, .slice pa P.length pc, .slice m0 m1 m2] 89 (0, 0))) := by subst hw6; exact row3 R5H.out
  have W6 := Lib.hid hw6
  have p6 : w6.cell? ⟨p, 0, none⟩ = some (.slice (some ⟨g5, 0, none⟩) (n + 1) c5) := by rw [cell_of_row _ _ _ _ _ _ R6.out]; rfl
  try rw [hw6]
  clear hw6
  go_wp2_with fail
  rw [HR.out]
  have lt := (Array.getElem?_eq_some_iff.1 ROW.out).1
  have k6 : KpX 89 w5 w6 := by rw [← W6.out]; exact (But.setCell p w5 0 _).kpx ⟨_, R5H.out⟩
  refine ⟨by rw [DN.out]; simp, ⟨_, c5, pa, pc, m0, m1, m2, by rw [List.length_append, List.length_singleton, DN.out]; exact R6.out, by rw [List.length_append, List.length_singleton, DN.out]; exact q1, q2, k3, k4, D5.out.kx k6 (by decide) (by decide), (((PS.out.below B2.out).below B3.out).below B5.out).kx k6 (by decide) (by decide) (by decide)⟩, ?_⟩
  refine (But.of_below (over (over B2.out B3.out) B5.out)).trans ?_
  rw [← W6.out]; exact But.setCell p w5 0 _
end Go.Proofs.YteiohgiecpibhaaGreat
