/-
  No cell of these rows narrows 'for every input' (looked for: loops, veiled, ifaces, maps, wideKeys, modest, calm, conditions, laid).
  DERIVED. THE GIVEN ROWS OF THIS SEAT. 9 by the template 'for every input the law returns true; each argument reads behind the call as it read before'; 0 by the template 'total and deterministic' (their statements: YteiohgiecpibhaaGreatTotals.lean).
  GIVEN WITH THE SEED: the statements are not yours to turn. If you find one false, say at which input.
  Laid BY PROGRAM, IN A SANDBOX (cutbox-rows.mjs): the forced cells as the released guide's own fill.sh prints them over the translation 3e35fe859de27744… (all of the seat's roots in one cut). By AI agents, Wed Nov 11 2026. No macro, syntax, notation, axiom, sorry.
-/
import Derived.Test.YteiohgiecpibhaaGreatChecked
import GoSem.Claim
import GoSem.ClaimJoined
import GoSem.ClaimMapViews
import Derived.JoinedTies
import Derived.KernelRfl
namespace Go.Proofs.YteiohgiecpibhaaGreat
/- THE CELL 'sum', in the pinned program and in every row, IS THE sha256 OF THE DUMP (.gsa) THAT YteiohgiecpibhaaGreatProg.lean LOADS. Nothing in Lean hashes anything: it is a label: what it is worth is what the hold of that sum in a sandbox is worth. -/
noncomputable def Tryz.pinned : Pinned := { name := "yteiohgiecpibhaagreat", sum := "3e35fe859de2774464b353a45edb582af56556d078020117d1c8765e86d91f64", checked := Tryz.checked }
namespace Rows
def none {H : Type} : Left H := { results := [], args := [] }

/-- 'fetterlocklaw5.DomainCheckMatchesSpec': WHATEVER THE INPUT: true; the input reads as it did. -/
def domainCheckMatchesSpecSpec : ChangeSpec := { name := "domainCheckMatchesSpec", fn := fun _ => fun
  | [d] => { results := [.lit (.bool true)], args := [d] }
  | _ => none }
def domainCheckMatchesSpecRow : OpenClaim := { program := "yteiohgiecpibhaagreat", sum := "3e35fe859de2774464b353a45edb582af56556d078020117d1c8765e86d91f64", func := "fetterlock/fetterlocklaw5.DomainCheckMatchesSpec", spec := "domainCheckMatchesSpec", unfollowed := true, recurses := true, apart := false }
def DomainCheckMatchesSpecSaid : Prop := domainCheckMatchesSpecRow.holds Tryz.pinned (OpenSpec.ofChange domainCheckMatchesSpecSpec)

/-- ITS FALSE NEIGHBOUR: 'it returns false'. Refute it at one input. -/
def domainCheckMatchesSpecWrong : ChangeSpec := { name := "domainCheckMatchesSpec", fn := fun _ => fun
  | [d] => { results := [.lit (.bool false)], args := [d] }
  | _ => none }
def DomainCheckMatchesSpecWrongFalsely : Prop := domainCheckMatchesSpecRow.holds Tryz.pinned (OpenSpec.ofChange domainCheckMatchesSpecWrong)

/-- 'fetterlocklaw5.DomainPostsCommute': WHATEVER THE INPUT: true; the input reads as it did. -/
def domainPostsCommuteSpec : ChangeSpec := { name := "domainPostsCommute", fn := fun _ => fun
  | [d1, d2] => { results := [.lit (.bool true)], args := [d1, d2] }
  | _ => none }
def domainPostsCommuteRow : OpenClaim := { program := "yteiohgiecpibhaagreat", sum := "3e35fe859de2774464b353a45edb582af56556d078020117d1c8765e86d91f64", func := "fetterlock/fetterlocklaw5.DomainPostsCommute", spec := "domainPostsCommute", unfollowed := true, recurses := true, apart := false }
def DomainPostsCommuteSaid : Prop := domainPostsCommuteRow.holds Tryz.pinned (OpenSpec.ofChange domainPostsCommuteSpec)

/-- ITS FALSE NEIGHBOUR: 'it returns false'. Refute it at one input. -/
def domainPostsCommuteWrong : ChangeSpec := { name := "domainPostsCommute", fn := fun _ => fun
  | [d1, d2] => { results := [.lit (.bool false)], args := [d1, d2] }
  | _ => none }
def DomainPostsCommuteWrongFalsely : Prop := domainPostsCommuteRow.holds Tryz.pinned (OpenSpec.ofChange domainPostsCommuteWrong)

/-- 'fetterlocklaw5.DomainPostedTwice': WHATEVER THE INPUT: true; the input reads as it did. -/
def domainPostedTwiceSpec : ChangeSpec := { name := "domainPostedTwice", fn := fun _ => fun
  | [d1, d2] => { results := [.lit (.bool true)], args := [d1, d2] }
  | _ => none }
def domainPostedTwiceRow : OpenClaim := { program := "yteiohgiecpibhaagreat", sum := "3e35fe859de2774464b353a45edb582af56556d078020117d1c8765e86d91f64", func := "fetterlock/fetterlocklaw5.DomainPostedTwice", spec := "domainPostedTwice", unfollowed := true, recurses := true, apart := false }
def DomainPostedTwiceSaid : Prop := domainPostedTwiceRow.holds Tryz.pinned (OpenSpec.ofChange domainPostedTwiceSpec)

/-- ITS FALSE NEIGHBOUR: 'it returns false'. Refute it at one input. -/
def domainPostedTwiceWrong : ChangeSpec := { name := "domainPostedTwice", fn := fun _ => fun
  | [d1, d2] => { results := [.lit (.bool false)], args := [d1, d2] }
  | _ => none }
def DomainPostedTwiceWrongFalsely : Prop := domainPostedTwiceRow.holds Tryz.pinned (OpenSpec.ofChange domainPostedTwiceWrong)

/-- 'fetterlocklaw5.DomainOfMatchesSpec': WHATEVER THE INPUT: true; the input reads as it did. -/
def domainOfMatchesSpecSpec : ChangeSpec := { name := "domainOfMatchesSpec", fn := fun _ => fun
  | [d] => { results := [.lit (.bool true)], args := [d] }
  | _ => none }
def domainOfMatchesSpecRow : OpenClaim := { program := "yteiohgiecpibhaagreat", sum := "3e35fe859de2774464b353a45edb582af56556d078020117d1c8765e86d91f64", func := "fetterlock/fetterlocklaw5.DomainOfMatchesSpec", spec := "domainOfMatchesSpec", unfollowed := true, recurses := true, apart := false }
def DomainOfMatchesSpecSaid : Prop := domainOfMatchesSpecRow.holds Tryz.pinned (OpenSpec.ofChange domainOfMatchesSpecSpec)

/-- ITS FALSE NEIGHBOUR: 'it returns false'. Refute it at one input. -/
def domainOfMatchesSpecWrong : ChangeSpec := { name := "domainOfMatchesSpec", fn := fun _ => fun
  | [d] => { results := [.lit (.bool false)], args := [d] }
  | _ => none }
def DomainOfMatchesSpecWrongFalsely : Prop := domainOfMatchesSpecRow.holds Tryz.pinned (OpenSpec.ofChange domainOfMatchesSpecWrong)

/-- 'fetterlocklaw5.DomainSetsMatchSpec': WHATEVER THE INPUT: true; the input reads as it did. -/
def domainSetsMatchSpecSpec : ChangeSpec := { name := "domainSetsMatchSpec", fn := fun _ => fun
  | [d1, d2, d3] => { results := [.lit (.bool true)], args := [d1, d2, d3] }
  | _ => none }
def domainSetsMatchSpecRow : OpenClaim := { program := "yteiohgiecpibhaagreat", sum := "3e35fe859de2774464b353a45edb582af56556d078020117d1c8765e86d91f64", func := "fetterlock/fetterlocklaw5.DomainSetsMatchSpec", spec := "domainSetsMatchSpec", unfollowed := true, recurses := true, apart := false }
def DomainSetsMatchSpecSaid : Prop := domainSetsMatchSpecRow.holds Tryz.pinned (OpenSpec.ofChange domainSetsMatchSpecSpec)

/-- ITS FALSE NEIGHBOUR: 'it returns false'. Refute it at one input. -/
def domainSetsMatchSpecWrong : ChangeSpec := { name := "domainSetsMatchSpec", fn := fun _ => fun
  | [d1, d2, d3] => { results := [.lit (.bool false)], args := [d1, d2, d3] }
  | _ => none }
def DomainSetsMatchSpecWrongFalsely : Prop := domainSetsMatchSpecRow.holds Tryz.pinned (OpenSpec.ofChange domainSetsMatchSpecWrong)

/-- 'fetterlocklaw5.DomainSetsAreAlgebra': WHATEVER THE INPUT: true; the input reads as it did. -/
def domainSetsAreAlgebraSpec : ChangeSpec := { name := "domainSetsAreAlgebra", fn := fun _ => fun
  | [d1, d2, d3] => { results := [.lit (.bool true)], args := [d1, d2, d3] }
  | _ => none }
def domainSetsAreAlgebraRow : OpenClaim := { program := "yteiohgiecpibhaagreat", sum := "3e35fe859de2774464b353a45edb582af56556d078020117d1c8765e86d91f64", func := "fetterlock/fetterlocklaw5.DomainSetsAreAlgebra", spec := "domainSetsAreAlgebra", unfollowed := true, recurses := true, apart := false }
def DomainSetsAreAlgebraSaid : Prop := domainSetsAreAlgebraRow.holds Tryz.pinned (OpenSpec.ofChange domainSetsAreAlgebraSpec)

/-- ITS FALSE NEIGHBOUR: 'it returns false'. Refute it at one input. -/
def domainSetsAreAlgebraWrong : ChangeSpec := { name := "domainSetsAreAlgebra", fn := fun _ => fun
  | [d1, d2, d3] => { results := [.lit (.bool false)], args := [d1, d2, d3] }
  | _ => none }
def DomainSetsAreAlgebraWrongFalsely : Prop := domainSetsAreAlgebraRow.holds Tryz.pinned (OpenSpec.ofChange domainSetsAreAlgebraWrong)

/-- 'fetterlocklaw5.DomainConstraintMatchesSpec': WHATEVER THE INPUT: true; the input reads as it did. -/
def domainConstraintMatchesSpecSpec : ChangeSpec := { name := "domainConstraintMatchesSpec", fn := fun _ => fun
  | [d1, d2, d3] => { results := [.lit (.bool true)], args := [d1, d2, d3] }
  | _ => none }
def domainConstraintMatchesSpecRow : OpenClaim := { program := "yteiohgiecpibhaagreat", sum := "3e35fe859de2774464b353a45edb582af56556d078020117d1c8765e86d91f64", func := "fetterlock/fetterlocklaw5.DomainConstraintMatchesSpec", spec := "domainConstraintMatchesSpec", unfollowed := true, recurses := true, apart := false }
def DomainConstraintMatchesSpecSaid : Prop := domainConstraintMatchesSpecRow.holds Tryz.pinned (OpenSpec.ofChange domainConstraintMatchesSpecSpec)

/-- ITS FALSE NEIGHBOUR: 'it returns false'. Refute it at one input. -/
def domainConstraintMatchesSpecWrong : ChangeSpec := { name := "domainConstraintMatchesSpec", fn := fun _ => fun
  | [d1, d2, d3] => { results := [.lit (.bool false)], args := [d1, d2, d3] }
  | _ => none }
def DomainConstraintMatchesSpecWrongFalsely : Prop := domainConstraintMatchesSpecRow.holds Tryz.pinned (OpenSpec.ofChange domainConstraintMatchesSpecWrong)

/-- 'fetterlocklaw5.DomainLabelsAreSolutions': WHATEVER THE INPUT: true; the input reads as it did. -/
def domainLabelsAreSolutionsSpec : ChangeSpec := { name := "domainLabelsAreSolutions", fn := fun _ => fun
  | [d1, d2, d3, d4] => { results := [.lit (.bool true)], args := [d1, d2, d3, d4] }
  | _ => none }
def domainLabelsAreSolutionsRow : OpenClaim := { program := "yteiohgiecpibhaagreat", sum := "3e35fe859de2774464b353a45edb582af56556d078020117d1c8765e86d91f64", func := "fetterlock/fetterlocklaw5.DomainLabelsAreSolutions", spec := "domainLabelsAreSolutions", unfollowed := true, recurses := true, apart := false }
def DomainLabelsAreSolutionsSaid : Prop := domainLabelsAreSolutionsRow.holds Tryz.pinned (OpenSpec.ofChange domainLabelsAreSolutionsSpec)

/-- ITS FALSE NEIGHBOUR: 'it returns false'. Refute it at one input. -/
def domainLabelsAreSolutionsWrong : ChangeSpec := { name := "domainLabelsAreSolutions", fn := fun _ => fun
  | [d1, d2, d3, d4] => { results := [.lit (.bool false)], args := [d1, d2, d3, d4] }
  | _ => none }
def DomainLabelsAreSolutionsWrongFalsely : Prop := domainLabelsAreSolutionsRow.holds Tryz.pinned (OpenSpec.ofChange domainLabelsAreSolutionsWrong)

/-- 'fetterlocklaw5.DomainSolutionsStay': WHATEVER THE INPUT: true; the input reads as it did. -/
def domainSolutionsStaySpec : ChangeSpec := { name := "domainSolutionsStay", fn := fun _ => fun
  | [d1, d2, d3] => { results := [.lit (.bool true)], args := [d1, d2, d3] }
  | _ => none }
def domainSolutionsStayRow : OpenClaim := { program := "yteiohgiecpibhaagreat", sum := "3e35fe859de2774464b353a45edb582af56556d078020117d1c8765e86d91f64", func := "fetterlock/fetterlocklaw5.DomainSolutionsStay", spec := "domainSolutionsStay", unfollowed := true, recurses := true, apart := false }
def DomainSolutionsStaySaid : Prop := domainSolutionsStayRow.holds Tryz.pinned (OpenSpec.ofChange domainSolutionsStaySpec)

/-- ITS FALSE NEIGHBOUR: 'it returns false'. Refute it at one input. -/
def domainSolutionsStayWrong : ChangeSpec := { name := "domainSolutionsStay", fn := fun _ => fun
  | [d1, d2, d3] => { results := [.lit (.bool false)], args := [d1, d2, d3] }
  | _ => none }
def DomainSolutionsStayWrongFalsely : Prop := domainSolutionsStayRow.holds Tryz.pinned (OpenSpec.ofChange domainSolutionsStayWrong)

/- THE SECOND FORM. 'bulk': how many values and letters a reading holds, each counted each time it is reached (what is shared counts as often as it is met; a slice's spare places count too). A statement '..UptoSaid' is the law's where the arguments, and the package variables that the reading takes, are together of bulk at most 1048576: NARROWER than '..Said'. Prove '..Said' where nothing that the law and all that it calls make is longer than what came in: it says more and counts as full. Else prove '..UptoSaid'. A law counts once. -/
mutual
def uptoBulk {H : Type} : DataW H → Nat
  | .lit (.string bytes) => bytes.length + 1
  | .lit _ => 1
  | .nil => 1
  | .ptr d => uptoBulk d + 1
  | .slice elems spare => uptoBulkAll elems + uptoBulkAll spare + 1
  | .agg parts => uptoBulkAll parts + 1
  | .iface _ d => uptoBulk d + 1
  | .map entries => uptoBulkEntries entries + 1
  | .held _ => 1
def uptoBulkAll {H : Type} : List (DataW H) → Nat
  | [] => 0
  | d :: r => uptoBulk d + uptoBulkAll r
def uptoBulkEntries {H : Type} : List (Lit × DataW H) → Nat
  | [] => 0
  | x :: r => uptoBulkEntry x + uptoBulkEntries r
def uptoBulkEntry {H : Type} : Lit × DataW H → Nat
  | (.string bytes, d) => bytes.length + uptoBulk d + 1
  | (_, d) => uptoBulk d + 1
 end
def uptoSmall : (H : Type) → List (DataW H) → Bool := fun _ ds => decide (uptoBulkAll ds ≤ 1048576)
def OpenSpec.upto (s : _root_.Go.ChangeSpec) : _root_.Go.OpenSpec := { _root_.Go.OpenSpec.ofChange s with cond := some uptoSmall }

/-- 'fetterlocklaw5.DomainCheckMatchesSpec', WHERE WHAT IT READS IS OF BULK AT MOST 1048576: true; the input reads as it did. -/
def domainCheckMatchesSpecUptoRow : OpenClaim := { program := "yteiohgiecpibhaagreat", sum := "3e35fe859de2774464b353a45edb582af56556d078020117d1c8765e86d91f64", func := "fetterlock/fetterlocklaw5.DomainCheckMatchesSpec", spec := "domainCheckMatchesSpec", unfollowed := true, recurses := true, apart := false, narrowed := true }
def DomainCheckMatchesSpecUptoSaid : Prop := domainCheckMatchesSpecUptoRow.holds Tryz.pinned (OpenSpec.upto domainCheckMatchesSpecSpec)

/-- 'fetterlocklaw5.DomainPostsCommute', WHERE WHAT IT READS IS OF BULK AT MOST 1048576: true; the input reads as it did. -/
def domainPostsCommuteUptoRow : OpenClaim := { program := "yteiohgiecpibhaagreat", sum := "3e35fe859de2774464b353a45edb582af56556d078020117d1c8765e86d91f64", func := "fetterlock/fetterlocklaw5.DomainPostsCommute", spec := "domainPostsCommute", unfollowed := true, recurses := true, apart := false, narrowed := true }
def DomainPostsCommuteUptoSaid : Prop := domainPostsCommuteUptoRow.holds Tryz.pinned (OpenSpec.upto domainPostsCommuteSpec)

/-- 'fetterlocklaw5.DomainPostedTwice', WHERE WHAT IT READS IS OF BULK AT MOST 1048576: true; the input reads as it did. -/
def domainPostedTwiceUptoRow : OpenClaim := { program := "yteiohgiecpibhaagreat", sum := "3e35fe859de2774464b353a45edb582af56556d078020117d1c8765e86d91f64", func := "fetterlock/fetterlocklaw5.DomainPostedTwice", spec := "domainPostedTwice", unfollowed := true, recurses := true, apart := false, narrowed := true }
def DomainPostedTwiceUptoSaid : Prop := domainPostedTwiceUptoRow.holds Tryz.pinned (OpenSpec.upto domainPostedTwiceSpec)

/-- 'fetterlocklaw5.DomainOfMatchesSpec', WHERE WHAT IT READS IS OF BULK AT MOST 1048576: true; the input reads as it did. -/
def domainOfMatchesSpecUptoRow : OpenClaim := { program := "yteiohgiecpibhaagreat", sum := "3e35fe859de2774464b353a45edb582af56556d078020117d1c8765e86d91f64", func := "fetterlock/fetterlocklaw5.DomainOfMatchesSpec", spec := "domainOfMatchesSpec", unfollowed := true, recurses := true, apart := false, narrowed := true }
def DomainOfMatchesSpecUptoSaid : Prop := domainOfMatchesSpecUptoRow.holds Tryz.pinned (OpenSpec.upto domainOfMatchesSpecSpec)

/-- 'fetterlocklaw5.DomainSetsMatchSpec', WHERE WHAT IT READS IS OF BULK AT MOST 1048576: true; the input reads as it did. -/
def domainSetsMatchSpecUptoRow : OpenClaim := { program := "yteiohgiecpibhaagreat", sum := "3e35fe859de2774464b353a45edb582af56556d078020117d1c8765e86d91f64", func := "fetterlock/fetterlocklaw5.DomainSetsMatchSpec", spec := "domainSetsMatchSpec", unfollowed := true, recurses := true, apart := false, narrowed := true }
def DomainSetsMatchSpecUptoSaid : Prop := domainSetsMatchSpecUptoRow.holds Tryz.pinned (OpenSpec.upto domainSetsMatchSpecSpec)

/-- 'fetterlocklaw5.DomainSetsAreAlgebra', WHERE WHAT IT READS IS OF BULK AT MOST 1048576: true; the input reads as it did. -/
def domainSetsAreAlgebraUptoRow : OpenClaim := { program := "yteiohgiecpibhaagreat", sum := "3e35fe859de2774464b353a45edb582af56556d078020117d1c8765e86d91f64", func := "fetterlock/fetterlocklaw5.DomainSetsAreAlgebra", spec := "domainSetsAreAlgebra", unfollowed := true, recurses := true, apart := false, narrowed := true }
def DomainSetsAreAlgebraUptoSaid : Prop := domainSetsAreAlgebraUptoRow.holds Tryz.pinned (OpenSpec.upto domainSetsAreAlgebraSpec)

/-- 'fetterlocklaw5.DomainConstraintMatchesSpec', WHERE WHAT IT READS IS OF BULK AT MOST 1048576: true; the input reads as it did. -/
def domainConstraintMatchesSpecUptoRow : OpenClaim := { program := "yteiohgiecpibhaagreat", sum := "3e35fe859de2774464b353a45edb582af56556d078020117d1c8765e86d91f64", func := "fetterlock/fetterlocklaw5.DomainConstraintMatchesSpec", spec := "domainConstraintMatchesSpec", unfollowed := true, recurses := true, apart := false, narrowed := true }
def DomainConstraintMatchesSpecUptoSaid : Prop := domainConstraintMatchesSpecUptoRow.holds Tryz.pinned (OpenSpec.upto domainConstraintMatchesSpecSpec)

/-- 'fetterlocklaw5.DomainLabelsAreSolutions', WHERE WHAT IT READS IS OF BULK AT MOST 1048576: true; the input reads as it did. -/
def domainLabelsAreSolutionsUptoRow : OpenClaim := { program := "yteiohgiecpibhaagreat", sum := "3e35fe859de2774464b353a45edb582af56556d078020117d1c8765e86d91f64", func := "fetterlock/fetterlocklaw5.DomainLabelsAreSolutions", spec := "domainLabelsAreSolutions", unfollowed := true, recurses := true, apart := false, narrowed := true }
def DomainLabelsAreSolutionsUptoSaid : Prop := domainLabelsAreSolutionsUptoRow.holds Tryz.pinned (OpenSpec.upto domainLabelsAreSolutionsSpec)

/-- 'fetterlocklaw5.DomainSolutionsStay', WHERE WHAT IT READS IS OF BULK AT MOST 1048576: true; the input reads as it did. -/
def domainSolutionsStayUptoRow : OpenClaim := { program := "yteiohgiecpibhaagreat", sum := "3e35fe859de2774464b353a45edb582af56556d078020117d1c8765e86d91f64", func := "fetterlock/fetterlocklaw5.DomainSolutionsStay", spec := "domainSolutionsStay", unfollowed := true, recurses := true, apart := false, narrowed := true }
def DomainSolutionsStayUptoSaid : Prop := domainSolutionsStayUptoRow.holds Tryz.pinned (OpenSpec.upto domainSolutionsStaySpec)

end Rows
end Go.Proofs.YteiohgiecpibhaaGreat
