/-
  NARROWER THAN 'FOR EVERY INPUT', by the rows' own cells (each row's printed sentence says how): BoolBuildMatchesSpec: loops · BoolApplyFollowsFormulas: loops.
  DERIVED. THE GIVEN ROWS OF THIS SEAT. 10 by the template 'for every input the law returns true; each argument reads behind the call as it read before'; 0 by the template 'total and deterministic' (their statements: YthhogbligfmpdaaTotals.lean).
  GIVEN WITH THE SEED: the statements are not yours to turn. If you find one false, say at which input.
  Laid BY PROGRAM, IN A SANDBOX (cutbox-rows.mjs): the forced cells as the released guide's own fill.sh prints them over the translation 60a3f1293296ff77… (all of the seat's roots in one cut). By AI agents, Wed Nov 11 2026. No macro, syntax, notation, axiom, sorry.
-/
import Derived.Test.YthhogbligfmpdaaChecked
import GoSem.Claim
import GoSem.ClaimJoined
import GoSem.ClaimMapViews
import Derived.JoinedTies
import Derived.KernelRfl
namespace Go.Proofs.Ythhogbligfmpdaa
/- THE CELL 'sum', in the pinned program and in every row, IS THE sha256 OF THE DUMP (.gsa) THAT YthhogbligfmpdaaProg.lean LOADS. Nothing in Lean hashes anything: it is a label: what it is worth is what the hold of that sum in a sandbox is worth. -/
noncomputable def Try.pinned : Pinned := { name := "ythhogbligfmpdaa", sum := "60a3f1293296ff77b94d6137c26b4941befa95e3caaaea2ef875023c218a52f1", checked := Try.checked }
namespace Rows
def none {H : Type} : Left H := { results := [], args := [] }

/-- 'fetterlocklaw6.BoolBuildMatchesSpec': WHATEVER THE INPUT: true; the input reads as it did. -/
def boolBuildMatchesSpecSpec : ChangeSpec := { name := "boolBuildMatchesSpec", fn := fun _ => fun
  | [d] => { results := [.lit (.bool true)], args := [d] }
  | _ => none }
def boolBuildMatchesSpecRow : OpenClaim := { program := "ythhogbligfmpdaa", sum := "60a3f1293296ff77b94d6137c26b4941befa95e3caaaea2ef875023c218a52f1", func := "fetterlock/fetterlocklaw6.BoolBuildMatchesSpec", spec := "boolBuildMatchesSpec", unfollowed := true, recurses := true, loops := true, plainKeys := false, apart := false }
def BoolBuildMatchesSpecSaid : Prop := boolBuildMatchesSpecRow.holds Try.pinned (OpenSpec.ofChange boolBuildMatchesSpecSpec)

/-- ITS FALSE NEIGHBOUR: 'it returns false'. Refute it at one input. -/
def boolBuildMatchesSpecWrong : ChangeSpec := { name := "boolBuildMatchesSpec", fn := fun _ => fun
  | [d] => { results := [.lit (.bool false)], args := [d] }
  | _ => none }
def BoolBuildMatchesSpecWrongFalsely : Prop := boolBuildMatchesSpecRow.holds Try.pinned (OpenSpec.ofChange boolBuildMatchesSpecWrong)

/-- 'fetterlocklaw6.BoolApplyFollowsFormulas': WHATEVER THE INPUT: true; the input reads as it did. -/
def boolApplyFollowsFormulasSpec : ChangeSpec := { name := "boolApplyFollowsFormulas", fn := fun _ => fun
  | [d1, d2, d3] => { results := [.lit (.bool true)], args := [d1, d2, d3] }
  | _ => none }
def boolApplyFollowsFormulasRow : OpenClaim := { program := "ythhogbligfmpdaa", sum := "60a3f1293296ff77b94d6137c26b4941befa95e3caaaea2ef875023c218a52f1", func := "fetterlock/fetterlocklaw6.BoolApplyFollowsFormulas", spec := "boolApplyFollowsFormulas", unfollowed := true, recurses := true, loops := true, plainKeys := false, apart := false }
def BoolApplyFollowsFormulasSaid : Prop := boolApplyFollowsFormulasRow.holds Try.pinned (OpenSpec.ofChange boolApplyFollowsFormulasSpec)

/-- ITS FALSE NEIGHBOUR: 'it returns false'. Refute it at one input. -/
def boolApplyFollowsFormulasWrong : ChangeSpec := { name := "boolApplyFollowsFormulas", fn := fun _ => fun
  | [d1, d2, d3] => { results := [.lit (.bool false)], args := [d1, d2, d3] }
  | _ => none }
def BoolApplyFollowsFormulasWrongFalsely : Prop := boolApplyFollowsFormulasRow.holds Try.pinned (OpenSpec.ofChange boolApplyFollowsFormulasWrong)

/-- 'fetterlocklaw6.BoolApplyMatchesSpec': WHATEVER THE INPUT: true; the input reads as it did. -/
def boolApplyMatchesSpecSpec : ChangeSpec := { name := "boolApplyMatchesSpec", fn := fun _ => fun
  | [d1, d2, d3] => { results := [.lit (.bool true)], args := [d1, d2, d3] }
  | _ => none }
def boolApplyMatchesSpecRow : OpenClaim := { program := "ythhogbligfmpdaa", sum := "60a3f1293296ff77b94d6137c26b4941befa95e3caaaea2ef875023c218a52f1", func := "fetterlock/fetterlocklaw6.BoolApplyMatchesSpec", spec := "boolApplyMatchesSpec", unfollowed := true, recurses := true, plainKeys := false, apart := false }
def BoolApplyMatchesSpecSaid : Prop := boolApplyMatchesSpecRow.holds Try.pinned (OpenSpec.ofChange boolApplyMatchesSpecSpec)

/-- ITS FALSE NEIGHBOUR: 'it returns false'. Refute it at one input. -/
def boolApplyMatchesSpecWrong : ChangeSpec := { name := "boolApplyMatchesSpec", fn := fun _ => fun
  | [d1, d2, d3] => { results := [.lit (.bool false)], args := [d1, d2, d3] }
  | _ => none }
def BoolApplyMatchesSpecWrongFalsely : Prop := boolApplyMatchesSpecRow.holds Try.pinned (OpenSpec.ofChange boolApplyMatchesSpecWrong)

/-- 'fetterlocklaw6.BoolModelsMatchSpec': WHATEVER THE INPUT: true; the input reads as it did. -/
def boolModelsMatchSpecSpec : ChangeSpec := { name := "boolModelsMatchSpec", fn := fun _ => fun
  | [d1, d2, d3] => { results := [.lit (.bool true)], args := [d1, d2, d3] }
  | _ => none }
def boolModelsMatchSpecRow : OpenClaim := { program := "ythhogbligfmpdaa", sum := "60a3f1293296ff77b94d6137c26b4941befa95e3caaaea2ef875023c218a52f1", func := "fetterlock/fetterlocklaw6.BoolModelsMatchSpec", spec := "boolModelsMatchSpec", unfollowed := true, recurses := true, plainKeys := false, apart := false }
def BoolModelsMatchSpecSaid : Prop := boolModelsMatchSpecRow.holds Try.pinned (OpenSpec.ofChange boolModelsMatchSpecSpec)

/-- ITS FALSE NEIGHBOUR: 'it returns false'. Refute it at one input. -/
def boolModelsMatchSpecWrong : ChangeSpec := { name := "boolModelsMatchSpec", fn := fun _ => fun
  | [d1, d2, d3] => { results := [.lit (.bool false)], args := [d1, d2, d3] }
  | _ => none }
def BoolModelsMatchSpecWrongFalsely : Prop := boolModelsMatchSpecRow.holds Try.pinned (OpenSpec.ofChange boolModelsMatchSpecWrong)

/-- 'fetterlocklaw6.BoolCountsAddUp': WHATEVER THE INPUT: true; the input reads as it did. -/
def boolCountsAddUpSpec : ChangeSpec := { name := "boolCountsAddUp", fn := fun _ => fun
  | [d1, d2] => { results := [.lit (.bool true)], args := [d1, d2] }
  | _ => none }
def boolCountsAddUpRow : OpenClaim := { program := "ythhogbligfmpdaa", sum := "60a3f1293296ff77b94d6137c26b4941befa95e3caaaea2ef875023c218a52f1", func := "fetterlock/fetterlocklaw6.BoolCountsAddUp", spec := "boolCountsAddUp", unfollowed := true, recurses := true, plainKeys := false, apart := false }
def BoolCountsAddUpSaid : Prop := boolCountsAddUpRow.holds Try.pinned (OpenSpec.ofChange boolCountsAddUpSpec)

/-- ITS FALSE NEIGHBOUR: 'it returns false'. Refute it at one input. -/
def boolCountsAddUpWrong : ChangeSpec := { name := "boolCountsAddUp", fn := fun _ => fun
  | [d1, d2] => { results := [.lit (.bool false)], args := [d1, d2] }
  | _ => none }
def BoolCountsAddUpWrongFalsely : Prop := boolCountsAddUpRow.holds Try.pinned (OpenSpec.ofChange boolCountsAddUpWrong)

/-- 'fetterlocklaw6.BoolCheckMatchesSpec': WHATEVER THE INPUT: true; the input reads as it did. -/
def boolCheckMatchesSpecSpec : ChangeSpec := { name := "boolCheckMatchesSpec", fn := fun _ => fun
  | [d] => { results := [.lit (.bool true)], args := [d] }
  | _ => none }
def boolCheckMatchesSpecRow : OpenClaim := { program := "ythhogbligfmpdaa", sum := "60a3f1293296ff77b94d6137c26b4941befa95e3caaaea2ef875023c218a52f1", func := "fetterlock/fetterlocklaw6.BoolCheckMatchesSpec", spec := "boolCheckMatchesSpec", unfollowed := true, recurses := true, plainKeys := false, apart := false }
def BoolCheckMatchesSpecSaid : Prop := boolCheckMatchesSpecRow.holds Try.pinned (OpenSpec.ofChange boolCheckMatchesSpecSpec)

/-- ITS FALSE NEIGHBOUR: 'it returns false'. Refute it at one input. -/
def boolCheckMatchesSpecWrong : ChangeSpec := { name := "boolCheckMatchesSpec", fn := fun _ => fun
  | [d] => { results := [.lit (.bool false)], args := [d] }
  | _ => none }
def BoolCheckMatchesSpecWrongFalsely : Prop := boolCheckMatchesSpecRow.holds Try.pinned (OpenSpec.ofChange boolCheckMatchesSpecWrong)

/-- 'fetterlocklaw6.BoolRestrictMatchesSpec': WHATEVER THE INPUT: true; the input reads as it did. -/
def boolRestrictMatchesSpecSpec : ChangeSpec := { name := "boolRestrictMatchesSpec", fn := fun _ => fun
  | [d1, d2, d3, d4] => { results := [.lit (.bool true)], args := [d1, d2, d3, d4] }
  | _ => none }
def boolRestrictMatchesSpecRow : OpenClaim := { program := "ythhogbligfmpdaa", sum := "60a3f1293296ff77b94d6137c26b4941befa95e3caaaea2ef875023c218a52f1", func := "fetterlock/fetterlocklaw6.BoolRestrictMatchesSpec", spec := "boolRestrictMatchesSpec", unfollowed := true, recurses := true, plainKeys := false, apart := false }
def BoolRestrictMatchesSpecSaid : Prop := boolRestrictMatchesSpecRow.holds Try.pinned (OpenSpec.ofChange boolRestrictMatchesSpecSpec)

/-- ITS FALSE NEIGHBOUR: 'it returns false'. Refute it at one input. -/
def boolRestrictMatchesSpecWrong : ChangeSpec := { name := "boolRestrictMatchesSpec", fn := fun _ => fun
  | [d1, d2, d3, d4] => { results := [.lit (.bool false)], args := [d1, d2, d3, d4] }
  | _ => none }
def BoolRestrictMatchesSpecWrongFalsely : Prop := boolRestrictMatchesSpecRow.holds Try.pinned (OpenSpec.ofChange boolRestrictMatchesSpecWrong)

/-- 'fetterlocklaw6.BoolSplits': WHATEVER THE INPUT: true; the input reads as it did. -/
def boolSplitsSpec : ChangeSpec := { name := "boolSplits", fn := fun _ => fun
  | [d1, d2] => { results := [.lit (.bool true)], args := [d1, d2] }
  | _ => none }
def boolSplitsRow : OpenClaim := { program := "ythhogbligfmpdaa", sum := "60a3f1293296ff77b94d6137c26b4941befa95e3caaaea2ef875023c218a52f1", func := "fetterlock/fetterlocklaw6.BoolSplits", spec := "boolSplits", unfollowed := true, recurses := true, plainKeys := false, apart := false }
def BoolSplitsSaid : Prop := boolSplitsRow.holds Try.pinned (OpenSpec.ofChange boolSplitsSpec)

/-- ITS FALSE NEIGHBOUR: 'it returns false'. Refute it at one input. -/
def boolSplitsWrong : ChangeSpec := { name := "boolSplits", fn := fun _ => fun
  | [d1, d2] => { results := [.lit (.bool false)], args := [d1, d2] }
  | _ => none }
def BoolSplitsWrongFalsely : Prop := boolSplitsRow.holds Try.pinned (OpenSpec.ofChange boolSplitsWrong)

/-- 'fetterlocklaw6.BoolImplicatesMatchSpec': WHATEVER THE INPUT: true; the input reads as it did. -/
def boolImplicatesMatchSpecSpec : ChangeSpec := { name := "boolImplicatesMatchSpec", fn := fun _ => fun
  | [d] => { results := [.lit (.bool true)], args := [d] }
  | _ => none }
def boolImplicatesMatchSpecRow : OpenClaim := { program := "ythhogbligfmpdaa", sum := "60a3f1293296ff77b94d6137c26b4941befa95e3caaaea2ef875023c218a52f1", func := "fetterlock/fetterlocklaw6.BoolImplicatesMatchSpec", spec := "boolImplicatesMatchSpec", unfollowed := true, recurses := true, plainKeys := false, apart := false }
def BoolImplicatesMatchSpecSaid : Prop := boolImplicatesMatchSpecRow.holds Try.pinned (OpenSpec.ofChange boolImplicatesMatchSpecSpec)

/-- ITS FALSE NEIGHBOUR: 'it returns false'. Refute it at one input. -/
def boolImplicatesMatchSpecWrong : ChangeSpec := { name := "boolImplicatesMatchSpec", fn := fun _ => fun
  | [d] => { results := [.lit (.bool false)], args := [d] }
  | _ => none }
def BoolImplicatesMatchSpecWrongFalsely : Prop := boolImplicatesMatchSpecRow.holds Try.pinned (OpenSpec.ofChange boolImplicatesMatchSpecWrong)

/-- 'fetterlocklaw6.BoolImplicatesMeanTheFunction': WHATEVER THE INPUT: true; the input reads as it did. -/
def boolImplicatesMeanTheFunctionSpec : ChangeSpec := { name := "boolImplicatesMeanTheFunction", fn := fun _ => fun
  | [d] => { results := [.lit (.bool true)], args := [d] }
  | _ => none }
def boolImplicatesMeanTheFunctionRow : OpenClaim := { program := "ythhogbligfmpdaa", sum := "60a3f1293296ff77b94d6137c26b4941befa95e3caaaea2ef875023c218a52f1", func := "fetterlock/fetterlocklaw6.BoolImplicatesMeanTheFunction", spec := "boolImplicatesMeanTheFunction", unfollowed := true, recurses := true, plainKeys := false, apart := false }
def BoolImplicatesMeanTheFunctionSaid : Prop := boolImplicatesMeanTheFunctionRow.holds Try.pinned (OpenSpec.ofChange boolImplicatesMeanTheFunctionSpec)

/-- ITS FALSE NEIGHBOUR: 'it returns false'. Refute it at one input. -/
def boolImplicatesMeanTheFunctionWrong : ChangeSpec := { name := "boolImplicatesMeanTheFunction", fn := fun _ => fun
  | [d] => { results := [.lit (.bool false)], args := [d] }
  | _ => none }
def BoolImplicatesMeanTheFunctionWrongFalsely : Prop := boolImplicatesMeanTheFunctionRow.holds Try.pinned (OpenSpec.ofChange boolImplicatesMeanTheFunctionWrong)

/- THE SECOND FORM. 'bulk': how many values and letters a reading holds, each counted each time it is reached (what is shared counts as often as it is met; a slice's spare places count too). A statement '..UptoSaid' is the law's where the arguments, and the package variables that the reading takes, are together of bulk at most 1048576: NARROWER than '..Said'. Prove '..Said' where nothing that the law and all that it calls make is longer than what came in: it says more and counts as full. Else prove '..UptoSaid'. A law counts once. -/
mutual
def uptoBulk {H : Type} : DataW H → Nat
  | .lit (.string bytes) => bytes.length + 1
  | .lit _ => 1
  | .nil => 1
  | .ptr d => uptoBulk d + 1
  | .slice elems spare => uptoBulkAll elems + uptoBulkAll spare + 1
  | .agg parts => uptoBulkAll parts + 1
  | .iface _ d => uptoBulk d + 1
  | .map entries => uptoBulkEntries entries + 1
  | .held _ => 1
def uptoBulkAll {H : Type} : List (DataW H) → Nat
  | [] => 0
  | d :: r => uptoBulk d + uptoBulkAll r
def uptoBulkEntries {H : Type} : List (Lit × DataW H) → Nat
  | [] => 0
  | x :: r => uptoBulkEntry x + uptoBulkEntries r
def uptoBulkEntry {H : Type} : Lit × DataW H → Nat
  | (.string bytes, d) => bytes.length + uptoBulk d + 1
  | (_, d) => uptoBulk d + 1
 end
def uptoSmall : (H : Type) → List (DataW H) → Bool := fun _ ds => decide (uptoBulkAll ds ≤ 1048576)
def OpenSpec.upto (s : _root_.Go.ChangeSpec) : _root_.Go.OpenSpec := { _root_.Go.OpenSpec.ofChange s with cond := some uptoSmall }

/-- 'fetterlocklaw6.BoolBuildMatchesSpec', WHERE WHAT IT READS IS OF BULK AT MOST 1048576: true; the input reads as it did. -/
def boolBuildMatchesSpecUptoRow : OpenClaim := { program := "ythhogbligfmpdaa", sum := "60a3f1293296ff77b94d6137c26b4941befa95e3caaaea2ef875023c218a52f1", func := "fetterlock/fetterlocklaw6.BoolBuildMatchesSpec", spec := "boolBuildMatchesSpec", unfollowed := true, recurses := true, loops := true, plainKeys := false, apart := false, narrowed := true }
def BoolBuildMatchesSpecUptoSaid : Prop := boolBuildMatchesSpecUptoRow.holds Try.pinned (OpenSpec.upto boolBuildMatchesSpecSpec)

/-- 'fetterlocklaw6.BoolApplyFollowsFormulas', WHERE WHAT IT READS IS OF BULK AT MOST 1048576: true; the input reads as it did. -/
def boolApplyFollowsFormulasUptoRow : OpenClaim := { program := "ythhogbligfmpdaa", sum := "60a3f1293296ff77b94d6137c26b4941befa95e3caaaea2ef875023c218a52f1", func := "fetterlock/fetterlocklaw6.BoolApplyFollowsFormulas", spec := "boolApplyFollowsFormulas", unfollowed := true, recurses := true, loops := true, plainKeys := false, apart := false, narrowed := true }
def BoolApplyFollowsFormulasUptoSaid : Prop := boolApplyFollowsFormulasUptoRow.holds Try.pinned (OpenSpec.upto boolApplyFollowsFormulasSpec)

/-- 'fetterlocklaw6.BoolApplyMatchesSpec', WHERE WHAT IT READS IS OF BULK AT MOST 1048576: true; the input reads as it did. -/
def boolApplyMatchesSpecUptoRow : OpenClaim := { program := "ythhogbligfmpdaa", sum := "60a3f1293296ff77b94d6137c26b4941befa95e3caaaea2ef875023c218a52f1", func := "fetterlock/fetterlocklaw6.BoolApplyMatchesSpec", spec := "boolApplyMatchesSpec", unfollowed := true, recurses := true, plainKeys := false, apart := false, narrowed := true }
def BoolApplyMatchesSpecUptoSaid : Prop := boolApplyMatchesSpecUptoRow.holds Try.pinned (OpenSpec.upto boolApplyMatchesSpecSpec)

/-- 'fetterlocklaw6.BoolModelsMatchSpec', WHERE WHAT IT READS IS OF BULK AT MOST 1048576: true; the input reads as it did. -/
def boolModelsMatchSpecUptoRow : OpenClaim := { program := "ythhogbligfmpdaa", sum := "60a3f1293296ff77b94d6137c26b4941befa95e3caaaea2ef875023c218a52f1", func := "fetterlock/fetterlocklaw6.BoolModelsMatchSpec", spec := "boolModelsMatchSpec", unfollowed := true, recurses := true, plainKeys := false, apart := false, narrowed := true }
def BoolModelsMatchSpecUptoSaid : Prop := boolModelsMatchSpecUptoRow.holds Try.pinned (OpenSpec.upto boolModelsMatchSpecSpec)

/-- 'fetterlocklaw6.BoolCountsAddUp', WHERE WHAT IT READS IS OF BULK AT MOST 1048576: true; the input reads as it did. -/
def boolCountsAddUpUptoRow : OpenClaim := { program := "ythhogbligfmpdaa", sum := "60a3f1293296ff77b94d6137c26b4941befa95e3caaaea2ef875023c218a52f1", func := "fetterlock/fetterlocklaw6.BoolCountsAddUp", spec := "boolCountsAddUp", unfollowed := true, recurses := true, plainKeys := false, apart := false, narrowed := true }
def BoolCountsAddUpUptoSaid : Prop := boolCountsAddUpUptoRow.holds Try.pinned (OpenSpec.upto boolCountsAddUpSpec)

/-- 'fetterlocklaw6.BoolCheckMatchesSpec', WHERE WHAT IT READS IS OF BULK AT MOST 1048576: true; the input reads as it did. -/
def boolCheckMatchesSpecUptoRow : OpenClaim := { program := "ythhogbligfmpdaa", sum := "60a3f1293296ff77b94d6137c26b4941befa95e3caaaea2ef875023c218a52f1", func := "fetterlock/fetterlocklaw6.BoolCheckMatchesSpec", spec := "boolCheckMatchesSpec", unfollowed := true, recurses := true, plainKeys := false, apart := false, narrowed := true }
def BoolCheckMatchesSpecUptoSaid : Prop := boolCheckMatchesSpecUptoRow.holds Try.pinned (OpenSpec.upto boolCheckMatchesSpecSpec)

/-- 'fetterlocklaw6.BoolRestrictMatchesSpec', WHERE WHAT IT READS IS OF BULK AT MOST 1048576: true; the input reads as it did. -/
def boolRestrictMatchesSpecUptoRow : OpenClaim := { program := "ythhogbligfmpdaa", sum := "60a3f1293296ff77b94d6137c26b4941befa95e3caaaea2ef875023c218a52f1", func := "fetterlock/fetterlocklaw6.BoolRestrictMatchesSpec", spec := "boolRestrictMatchesSpec", unfollowed := true, recurses := true, plainKeys := false, apart := false, narrowed := true }
def BoolRestrictMatchesSpecUptoSaid : Prop := boolRestrictMatchesSpecUptoRow.holds Try.pinned (OpenSpec.upto boolRestrictMatchesSpecSpec)

/-- 'fetterlocklaw6.BoolSplits', WHERE WHAT IT READS IS OF BULK AT MOST 1048576: true; the input reads as it did. -/
def boolSplitsUptoRow : OpenClaim := { program := "ythhogbligfmpdaa", sum := "60a3f1293296ff77b94d6137c26b4941befa95e3caaaea2ef875023c218a52f1", func := "fetterlock/fetterlocklaw6.BoolSplits", spec := "boolSplits", unfollowed := true, recurses := true, plainKeys := false, apart := false, narrowed := true }
def BoolSplitsUptoSaid : Prop := boolSplitsUptoRow.holds Try.pinned (OpenSpec.upto boolSplitsSpec)

/-- 'fetterlocklaw6.BoolImplicatesMatchSpec', WHERE WHAT IT READS IS OF BULK AT MOST 1048576: true; the input reads as it did. -/
def boolImplicatesMatchSpecUptoRow : OpenClaim := { program := "ythhogbligfmpdaa", sum := "60a3f1293296ff77b94d6137c26b4941befa95e3caaaea2ef875023c218a52f1", func := "fetterlock/fetterlocklaw6.BoolImplicatesMatchSpec", spec := "boolImplicatesMatchSpec", unfollowed := true, recurses := true, plainKeys := false, apart := false, narrowed := true }
def BoolImplicatesMatchSpecUptoSaid : Prop := boolImplicatesMatchSpecUptoRow.holds Try.pinned (OpenSpec.upto boolImplicatesMatchSpecSpec)

/-- 'fetterlocklaw6.BoolImplicatesMeanTheFunction', WHERE WHAT IT READS IS OF BULK AT MOST 1048576: true; the input reads as it did. -/
def boolImplicatesMeanTheFunctionUptoRow : OpenClaim := { program := "ythhogbligfmpdaa", sum := "60a3f1293296ff77b94d6137c26b4941befa95e3caaaea2ef875023c218a52f1", func := "fetterlock/fetterlocklaw6.BoolImplicatesMeanTheFunction", spec := "boolImplicatesMeanTheFunction", unfollowed := true, recurses := true, plainKeys := false, apart := false, narrowed := true }
def BoolImplicatesMeanTheFunctionUptoSaid : Prop := boolImplicatesMeanTheFunctionUptoRow.holds Try.pinned (OpenSpec.upto boolImplicatesMeanTheFunctionSpec)

end Rows
end Go.Proofs.Ythhogbligfmpdaa
