/- The law function DomainCheckMatchesSpec, given the rule that must differ. -/
import Derived.Test.YteiohgiecpibhaaGreatXK
import Derived.Test.YteiohgiecpibhaaGreatXL
set_option linter.unusedVariables false
set_option linter.unusedSimpArgs false
set_option maxRecDepth 100000
set_option maxHeartbeats 4000000
namespace Go.Proofs.YteiohgiecpibhaaGreat
open Go.RowKit Fdm

theorem lawCheck_any (hR : ∀ D, exG exC D = true → RuOk exRu exC D) {w : World} {d : Dm} {a : Option Addr} {n c : Nat} (h : DmS w d a n c) : Calls Tryz.prog 3 #[.slice a n c] w fun e w' => e = .returned (.bool true) ∧ Below w.heap.size w w' := by
  have CK := Lib.hid (check_any h)
  have DF := Lib.hid (fun w' (hb : Below w.heap.size w w') => domFault_any (h.below hb))
  have LA := Lib.hid (labelled_any hR)
  obtain ⟨z, hz⟩ : ∃ z, chkD d = z := ⟨_, rfl⟩
  rw [hz] at CK DF
  clear h hz hR
  go_enter Tryz.func3, Tryz.ntmps3
  go_wp2_with (first
    | (go_at_call 12; refine CK.out.mono ?_; rintro e w2 ⟨rfl, hb⟩; have B2 := Lib.hid hb; clear hb)
    | (go_at_call 13; refine (DF.out _ B2.out).mono ?_; rintro e w3 ⟨rfl, hb⟩; have B3 := Lib.hid hb; clear hb)
    | (go_at_call 14; refine (LA.out _).mono ?_; rintro e w4 ⟨rfl, hb⟩; have B4 := Lib.hid hb; clear hb))
  go_ret
  exact ⟨rfl, over (over B2.out B3.out) B4.out⟩
end Go.Proofs.YteiohgiecpibhaaGreat
