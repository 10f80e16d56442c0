/- The law of Of: its call answers true; ints as handed in. -/
import Derived.Test.YteiohgiecpibhaaGreatMU
import Derived.Test.YteiohgiecpibhaaGreatMS
import Derived.Test.YteiohgiecpibhaaGreatMQ
set_option linter.unusedVariables false
set_option linter.unusedSimpArgs false
set_option maxRecDepth 100000
set_option maxHeartbeats 4000000
namespace Go.Proofs.YteiohgiecpibhaaGreat
open Go.RowKit Go.Shelf Fdm

theorem same_dom {w : World} {a : Dm} {aa ab : Option Addr} {n c m e : Nat} (ha : DmS w a aa n c) (hb : DmS w a ab m e) : Calls Tryz.prog 19 #[.slice aa n c, .slice ab m e] w fun e w' => e = .returned (.bool true) ∧ Qt w w' :=
  (sameDom_any ha hb).mono fun e w' ⟨h1, h2⟩ => ⟨by rw [h1]; simp, h2⟩
theorem law6_any {w : World} {l : List Int} {a : Option Addr} {n c : Nat} (h : InA w l a) (hn : l.length = n) (h0 : n ≤ c) (h1 : c ≤ 9223372036854775807) :
    Calls Tryz.prog 6 #[.slice a n c] w fun e w' => e = .returned (.bool true) ∧ Below w.heap.size w w' := by
  have O1 := Lib.hid (of17_any h hn h0 h1)
  have O2 := Lib.hid (fun w' (hb : Below w.heap.size w w') => of18_any (h.below hb) hn h0 h1)
  have LA := Lib.hid labelled_ok
  obtain ⟨z, hz⟩ : ∃ z, ofE l = z := ⟨_, rfl⟩
  rw [hz] at O1 O2
  obtain ⟨Y, hY⟩ : ∃ Y, ofD l = Y := ⟨_, rfl⟩
  rw [hY] at O1 O2
  have zz : (z == z) = true := by simp
  clear h hn hz hY
  go_enter Tryz.func6, Tryz.ntmps6
  go_wp2_with (first
    | (go_at_call 17; refine O1.out.mono ?_; rintro e w2 ⟨v, rfl, hv, hb⟩; obtain ⟨pa, pc, rfl, hs⟩ := hv.s; have S2 := Lib.hid hs; have B2 := Lib.hid hb; clear hv hb hs)
    | (go_at_call 18; refine (O2.out _ B2.out).mono ?_; rintro e w3 ⟨v, rfl, hv, hb⟩; obtain ⟨qa, qc, rfl, hs⟩ := hv.s; have SD := Lib.hid (same_dom (S2.out.below hb) hs); have B3 := Lib.hid (over B2.out hb); clear hv hb hs)
    | (go_at_call 19; refine SD.out.mono ?_; rintro e w4 ⟨rfl, hq⟩; have B4 := Lib.hid (over B3.out hq.below); clear hq)
    | (go_at_call 14; refine (LA.out _).mono ?_; rintro e w5 ⟨rfl, hb⟩; have B5 := Lib.hid (over B4.out hb); clear hb))
  go_ret
  exact ⟨rfl, B5.out⟩
theorem cells3i : Tryz.prog.cellsOf 3 = 1 := by kernel_rfl
section
variable {H : Type} {enc : TypeId × Value → H} {W : World} {sp : Nat → Bool} {hd : Bool}
theorem ints_read {fuel : Nat} {v : Value} {x : DataW H × List MemPlace} (h : DataW.trod enc Tryz.prog W 0 sp hd fuel 30 [v] = some x) : ∃ (l : List Int) (a : Option Addr) (n c : Nat), v = .slice a n c ∧ InA W l a ∧ l.length = n ∧ n ≤ c ∧ c ≤ 9223372036854775807 := by
  rcases Deep.open_slice Tryz.underlying30 h with ⟨e2, _⟩ | ⟨a, len, cap, m, n', D, Pl, e2, _, hlc, hcm, hm, _, hD⟩
  · simp at e2
    exact ⟨[], none, 0, 0, e2, fun q => absurd rfl q, rfl, Nat.le_refl _, by omega⟩
  · simp at e2
    have hml : len ≤ m := by rw [hm]; split <;> omega
    rw [cells3i] at hD
    have each : ∀ i, i < len → ∃ q : Int, W.cells? 0 (a.add (i * 1)) 1 = some [.int .i64 q] := by
      intro i hi
      obtain ⟨cs', hc, ht⟩ := hD i (by omega)
      obtain ⟨v0, f0, _, _⟩ := DataW.trod_int Tryz.underlying3 ht
      subst f0
      exact ⟨v0, hc⟩
    obtain ⟨q, hq⟩ := Deep.choose_lt each
    unfold maxLen at hcm
    refine ⟨(List.range len).map q, some a, len, cap, e2, ?_, by simp, hlc, by omega⟩
    intro hne
    have hpos : 0 < len := by
      have := List.length_pos_iff.2 hne
      simpa using this
    obtain ⟨b, o, spot⟩ := a
    have at1 : ∀ i, i < len → (i = 0 → spot = none) ∧ W.cell? ⟨b, o + i, none⟩ = some (.int .i64 (q i)) := fun i hi => by
      obtain ⟨_, _, hc⟩ := World.cells?_some (hq i hi)
      have h0 := hc 0 (by omega)
      rw [Deep.add_add] at h0
      obtain ⟨s, h0⟩ := one_spot h0
      exact ⟨fun e => s (by omega), by simpa using h0⟩
    have hs := (at1 0 hpos).1 rfl
    subst hs
    refine ⟨b, o, rfl, fun i hi => ?_⟩
    have hi' : i < len := by simpa using hi
    rw [(at1 i hi').2]
    simp [hi']
end
end Go.Proofs.YteiohgiecpibhaaGreat
