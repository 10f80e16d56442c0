/- The rule that must differ is a rule of the store: labelled() answers true. -/
import Derived.Test.YteiohgiecpibhaaGreatXI
import Derived.Test.YteiohgiecpibhaaGreatXM
set_option linter.unusedVariables false
set_option linter.unusedSimpArgs false
set_option maxRecDepth 100000
set_option maxHeartbeats 4000000
namespace Go.Proofs.YteiohgiecpibhaaGreat
open Go.RowKit Fdm

theorem ruOk_ex : ∀ D, exG exC D = true → RuOk exRu exC D := fun D h => ruOk_of h fun W x1 x2 x3 x6 xv hk hv => by
  obtain ⟨h1, h2, h3, _⟩ := exG_parts h
  obtain ⟨a, c, rfl, l1, l2, l3⟩ := hv.ex
  rw [h1] at l1 ⊢
  exact different_any hk l3 h1 l1 l2 h2 h3
theorem labelled_ok (w : World) : Calls Tryz.prog 14 #[] w fun e w' => e = .returned (.bool true) ∧ Below w.heap.size w w' := labelled_any ruOk_ex w
end Go.Proofs.YteiohgiecpibhaaGreat
