/- The law of Check, a domain as handed in. -/
import Derived.Test.YteiohgiecpibhaaGreatMP
import Derived.Test.YteiohgiecpibhaaGreatMC
import Derived.Test.YteiohgiecpibhaaGreatRows
import Derived.Deep.Strs
import Derived.Lib.SmallJoins
set_option linter.unusedVariables false
set_option linter.unusedSimpArgs false
set_option maxRecDepth 100000
set_option maxHeartbeats 4000000
namespace Go.Proofs.YteiohgiecpibhaaGreat
open Go.RowKit Fdm

theorem lawCheck_any (hR : ∀ D, exG exC D = true → RuOk exRu exC D) {w : World} {d : Dm} {a : Option Addr} {n c : Nat} (h : DmS w d a n c) : Calls Tryz.prog 3 #[.slice a n c] w fun e w' => e = .returned (.bool true) ∧ Below w.heap.size w w' := by
  have CK := Lib.hid (check_any h)
  have DF := Lib.hid (fun w' (hb : Below w.heap.size w w') => domFault_any (h.below hb))
  have LA := Lib.hid (labelled_any hR)
  obtain ⟨z, hz⟩ : ∃ z, chkD d = z := ⟨_, rfl⟩
  rw [hz] at CK DF
  clear h hz hR
  go_enter Tryz.func3, Tryz.ntmps3
  go_wp2_with (first
    | (go_at_call 12; refine CK.out.mono ?_; rintro e w2 ⟨rfl, hb⟩; have B2 := Lib.hid hb; clear hb)
    | (go_at_call 13; refine (DF.out _ B2.out).mono ?_; rintro e w3 ⟨rfl, hb⟩; have B3 := Lib.hid hb; clear hb)
    | (go_at_call 14; refine (LA.out _).mono ?_; rintro e w4 ⟨rfl, hb⟩; have B4 := Lib.hid hb; clear hb))
  go_ret
  exact ⟨rfl, over (over B2.out B3.out) B4.out⟩
end Go.Proofs.YteiohgiecpibhaaGreat
set_option linter.unusedVariables false
set_option linter.unusedSimpArgs false
set_option maxRecDepth 100000
set_option maxHeartbeats 4000000
namespace Go.Proofs.YteiohgiecpibhaaGreat
open Go.RowKit Fdm

theorem cells63 : Tryz.prog.cellsOf 63 = 2 := by kernel_rfl
theorem cells3z : Tryz.prog.cellsOf 3 = 1 := by kernel_rfl
theorem ll2 {α : Type} {l : List α} (h : l.length = 2) : ∃ a b, l = [a, b] := by
  match l, h with
  | [a, b], _ => exact ⟨a, b, rfl⟩
theorem one_spot {w : World} {b o : Nat} {sp : Option Nat} {i : Nat} {v : Value} (h : w.cell? ((⟨b, o, sp⟩ : Addr).add i) = some v) : (i = 0 → sp = none) ∧ w.cell? ⟨b, o + i, none⟩ = some v := by
 have s0 := World.cell?_spot (w := w) (v := v) h
 by_cases hi : i = 0
 ·subst hi
  simp [Addr.add] at s0 h
  subst s0
  exact ⟨fun _ => rfl, by simpa using h⟩
 ·refine ⟨fun e => absurd e hi, ?_⟩
  simp only [Addr.add] at h
  simpa [hi] using h
/-- Four cells of an element. -/
theorem two_at {w : World} {b o : Nat} {sp : Option Nat} {i : Nat} {x y : Value} (h : w.cells? 0 ((⟨b, o, sp⟩ : Addr).add (i * 2)) 2 = some [x, y]) : (i = 0 → sp = none) ∧ w.cell? ⟨b, o + i * 2, none⟩ = some x ∧ w.cell? ⟨b, o + i * 2 + 1, none⟩ = some y := by
  obtain ⟨_, _, hc⟩ := World.cells?_some h
  have h0 := hc 0 (by omega)
  have h1 := hc 1 (by omega)
  rw [Deep.add_add] at h0 h1
  obtain ⟨s, h0⟩ := one_spot h0
  refine ⟨fun e => s (by omega), by simpa using h0, ?_⟩
  have := (one_spot h1).2
  simpa [Nat.add_assoc] using this
section
variable {H : Type} {enc : TypeId × Value → H} {W : World} {sp : Nat → Bool} {hd : Bool}
theorem dom_read {fuel : Nat} {v : Value} {x : DataW H × List MemPlace} (h : DataW.trod enc Tryz.prog W 0 sp hd fuel 23 [v] = some x) : ∃ d a n c, v = .slice a n c ∧ DmS W d a n c := by
  rcases Deep.open_slice Tryz.underlying23 h with ⟨e2, _⟩ | ⟨a, len, cap, m, n', D, Pl, e2, _, hlc, hcm, hm, _, hD⟩
  · simp at e2
    exact ⟨[], none, 0, 0, e2, fun q => absurd rfl q, rfl, Nat.le_refl _, by omega⟩
  · simp at e2
    have hml : len ≤ m := by rw [hm]; split <;> omega
    rw [cells63] at hD
    have each : ∀ i, i < len → ∃ q : Sp, W.cells? 0 (a.add (i * 2)) 2 = some [.int .i64 q.1, .int .i64 q.2] := by
      intro i hi
      obtain ⟨cs', hc, ht⟩ := hD i (by omega)
      obtain ⟨z0, z1, k, _, kl, t0, t1⟩ := ChangeShapes.trod_struct2 Tryz.underlying63 ht
      rw [cells63] at kl
      obtain ⟨d0, d1, rfl⟩ := ll2 kl
      simp only [cells3z] at t0 t1
      obtain ⟨v0, f0, _, _⟩ := DataW.trod_int Tryz.underlying3 t0
      obtain ⟨v1, f1, _, _⟩ := DataW.trod_int Tryz.underlying3 t1
      simp at f0 f1
      subst f0 f1
      exact ⟨(v0, v1), hc⟩
    obtain ⟨q, hq⟩ := Deep.choose_lt each
    unfold maxLen at hcm
    refine ⟨(List.range len).map q, some a, len, cap, e2, ?_, by simp, hlc, by omega⟩
    intro hne
    have hpos : 0 < len := by
      have := List.length_pos_iff.2 hne
      simpa using this
    obtain ⟨b, o, spot⟩ := a
    have hs := (two_at (hq 0 hpos)).1 rfl
    subst hs
    refine ⟨b, o, rfl, fun i hi => ?_⟩
    have hi' : i < len := by simpa using hi
    obtain ⟨_, k0, k1⟩ := two_at (hq i hi')
    have e : Fdm.sp ((List.range len).map q) i = q i := by
      unfold Fdm.sp
      rw [List.getD_eq_getElem?_getD]
      simp [hi']
    rw [e]
    exact ⟨k0, k1⟩
end
end Go.Proofs.YteiohgiecpibhaaGreat
