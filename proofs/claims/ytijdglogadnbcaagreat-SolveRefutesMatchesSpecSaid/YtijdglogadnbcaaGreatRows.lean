/-
  No cell of these rows narrows 'for every input' (looked for: loops, veiled, ifaces, maps, wideKeys, modest, calm, conditions, laid).
  DERIVED. THE GIVEN ROWS OF THIS SEAT. 11 by the template 'for every input the law returns true; each argument reads behind the call as it read before'; 0 by the template 'total and deterministic' (their statements: YtijdglogadnbcaaGreatTotals.lean).
  GIVEN WITH THE SEED: the statements are not yours to turn. If you find one false, say at which input.
  Laid BY PROGRAM, IN A SANDBOX (cutbox-rows.mjs): the forced cells as the released guide's own fill.sh prints them over the translation bbdba466a963a679… (all of the seat's roots in one cut). By AI agents, Wed Nov 11 2026. No macro, syntax, notation, axiom, sorry.
-/
import Derived.Test.YtijdglogadnbcaaGreatChecked
import GoSem.Claim
import GoSem.ClaimJoined
import GoSem.ClaimMapViews
import Derived.JoinedTies
import Derived.KernelRfl
namespace Go.Proofs.YtijdglogadnbcaaGreat
/- THE CELL 'sum', in the pinned program and in every row, IS THE sha256 OF THE DUMP (.gsa) THAT YtijdglogadnbcaaGreatProg.lean LOADS. Nothing in Lean hashes anything: it is a label: what it is worth is what the hold of that sum in a sandbox is worth. -/
noncomputable def Tryz.pinned : Pinned := { name := "ytijdglogadnbcaagreat", sum := "bbdba466a963a679b8db5314ec115004252c52cdd94c7f6d93ddcc42df6405be", checked := Tryz.checked }
namespace Rows
def none {H : Type} : Left H := { results := [], args := [] }

/-- 'fetterlocklaw6.SolveRowMatchesSpec': WHATEVER THE INPUT: true; the input reads as it did. -/
def solveRowMatchesSpecSpec : ChangeSpec := { name := "solveRowMatchesSpec", fn := fun _ => fun
  | [d1, d2] => { results := [.lit (.bool true)], args := [d1, d2] }
  | _ => none }
def solveRowMatchesSpecRow : OpenClaim := { program := "ytijdglogadnbcaagreat", sum := "bbdba466a963a679b8db5314ec115004252c52cdd94c7f6d93ddcc42df6405be", func := "fetterlock/fetterlocklaw6.SolveRowMatchesSpec", spec := "solveRowMatchesSpec", unfollowed := true, recurses := true, apart := false }
def SolveRowMatchesSpecSaid : Prop := solveRowMatchesSpecRow.holds Tryz.pinned (OpenSpec.ofChange solveRowMatchesSpecSpec)

/-- ITS FALSE NEIGHBOUR: 'it returns false'. Refute it at one input. -/
def solveRowMatchesSpecWrong : ChangeSpec := { name := "solveRowMatchesSpec", fn := fun _ => fun
  | [d1, d2] => { results := [.lit (.bool false)], args := [d1, d2] }
  | _ => none }
def SolveRowMatchesSpecWrongFalsely : Prop := solveRowMatchesSpecRow.holds Tryz.pinned (OpenSpec.ofChange solveRowMatchesSpecWrong)

/-- 'fetterlocklaw6.SolveRangeIsTight': WHATEVER THE INPUT: true; the input reads as it did. -/
def solveRangeIsTightSpec : ChangeSpec := { name := "solveRangeIsTight", fn := fun _ => fun
  | [d1, d2] => { results := [.lit (.bool true)], args := [d1, d2] }
  | _ => none }
def solveRangeIsTightRow : OpenClaim := { program := "ytijdglogadnbcaagreat", sum := "bbdba466a963a679b8db5314ec115004252c52cdd94c7f6d93ddcc42df6405be", func := "fetterlock/fetterlocklaw6.SolveRangeIsTight", spec := "solveRangeIsTight", unfollowed := true, recurses := true, apart := false }
def SolveRangeIsTightSaid : Prop := solveRangeIsTightRow.holds Tryz.pinned (OpenSpec.ofChange solveRangeIsTightSpec)

/-- ITS FALSE NEIGHBOUR: 'it returns false'. Refute it at one input. -/
def solveRangeIsTightWrong : ChangeSpec := { name := "solveRangeIsTight", fn := fun _ => fun
  | [d1, d2] => { results := [.lit (.bool false)], args := [d1, d2] }
  | _ => none }
def SolveRangeIsTightWrongFalsely : Prop := solveRangeIsTightRow.holds Tryz.pinned (OpenSpec.ofChange solveRangeIsTightWrong)

/-- 'fetterlocklaw6.SolveEntailedChangesNothing': WHATEVER THE INPUT: true; the input reads as it did. -/
def solveEntailedChangesNothingSpec : ChangeSpec := { name := "solveEntailedChangesNothing", fn := fun _ => fun
  | [d1, d2, d3] => { results := [.lit (.bool true)], args := [d1, d2, d3] }
  | _ => none }
def solveEntailedChangesNothingRow : OpenClaim := { program := "ytijdglogadnbcaagreat", sum := "bbdba466a963a679b8db5314ec115004252c52cdd94c7f6d93ddcc42df6405be", func := "fetterlock/fetterlocklaw6.SolveEntailedChangesNothing", spec := "solveEntailedChangesNothing", unfollowed := true, recurses := true, apart := false }
def SolveEntailedChangesNothingSaid : Prop := solveEntailedChangesNothingRow.holds Tryz.pinned (OpenSpec.ofChange solveEntailedChangesNothingSpec)

/-- ITS FALSE NEIGHBOUR: 'it returns false'. Refute it at one input. -/
def solveEntailedChangesNothingWrong : ChangeSpec := { name := "solveEntailedChangesNothing", fn := fun _ => fun
  | [d1, d2, d3] => { results := [.lit (.bool false)], args := [d1, d2, d3] }
  | _ => none }
def SolveEntailedChangesNothingWrongFalsely : Prop := solveEntailedChangesNothingRow.holds Tryz.pinned (OpenSpec.ofChange solveEntailedChangesNothingWrong)

/-- 'fetterlocklaw6.SolveSystemMatchesSpec': WHATEVER THE INPUT: true; the input reads as it did. -/
def solveSystemMatchesSpecSpec : ChangeSpec := { name := "solveSystemMatchesSpec", fn := fun _ => fun
  | [d] => { results := [.lit (.bool true)], args := [d] }
  | _ => none }
def solveSystemMatchesSpecRow : OpenClaim := { program := "ytijdglogadnbcaagreat", sum := "bbdba466a963a679b8db5314ec115004252c52cdd94c7f6d93ddcc42df6405be", func := "fetterlock/fetterlocklaw6.SolveSystemMatchesSpec", spec := "solveSystemMatchesSpec", unfollowed := true, recurses := true, apart := false }
def SolveSystemMatchesSpecSaid : Prop := solveSystemMatchesSpecRow.holds Tryz.pinned (OpenSpec.ofChange solveSystemMatchesSpecSpec)

/-- ITS FALSE NEIGHBOUR: 'it returns false'. Refute it at one input. -/
def solveSystemMatchesSpecWrong : ChangeSpec := { name := "solveSystemMatchesSpec", fn := fun _ => fun
  | [d] => { results := [.lit (.bool false)], args := [d] }
  | _ => none }
def SolveSystemMatchesSpecWrongFalsely : Prop := solveSystemMatchesSpecRow.holds Tryz.pinned (OpenSpec.ofChange solveSystemMatchesSpecWrong)

/-- 'fetterlocklaw6.SolveUndoRestores': WHATEVER THE INPUT: true; the input reads as it did. -/
def solveUndoRestoresSpec : ChangeSpec := { name := "solveUndoRestores", fn := fun _ => fun
  | [d1, d2] => { results := [.lit (.bool true)], args := [d1, d2] }
  | _ => none }
def solveUndoRestoresRow : OpenClaim := { program := "ytijdglogadnbcaagreat", sum := "bbdba466a963a679b8db5314ec115004252c52cdd94c7f6d93ddcc42df6405be", func := "fetterlock/fetterlocklaw6.SolveUndoRestores", spec := "solveUndoRestores", unfollowed := true, recurses := true, apart := false }
def SolveUndoRestoresSaid : Prop := solveUndoRestoresRow.holds Tryz.pinned (OpenSpec.ofChange solveUndoRestoresSpec)

/-- ITS FALSE NEIGHBOUR: 'it returns false'. Refute it at one input. -/
def solveUndoRestoresWrong : ChangeSpec := { name := "solveUndoRestores", fn := fun _ => fun
  | [d1, d2] => { results := [.lit (.bool false)], args := [d1, d2] }
  | _ => none }
def SolveUndoRestoresWrongFalsely : Prop := solveUndoRestoresRow.holds Tryz.pinned (OpenSpec.ofChange solveUndoRestoresWrong)

/-- 'fetterlocklaw6.SolveRangeMatchesSpec': WHATEVER THE INPUT: true; the input reads as it did. -/
def solveRangeMatchesSpecSpec : ChangeSpec := { name := "solveRangeMatchesSpec", fn := fun _ => fun
  | [d1, d2, d3] => { results := [.lit (.bool true)], args := [d1, d2, d3] }
  | _ => none }
def solveRangeMatchesSpecRow : OpenClaim := { program := "ytijdglogadnbcaagreat", sum := "bbdba466a963a679b8db5314ec115004252c52cdd94c7f6d93ddcc42df6405be", func := "fetterlock/fetterlocklaw6.SolveRangeMatchesSpec", spec := "solveRangeMatchesSpec", unfollowed := true, recurses := true, apart := false }
def SolveRangeMatchesSpecSaid : Prop := solveRangeMatchesSpecRow.holds Tryz.pinned (OpenSpec.ofChange solveRangeMatchesSpecSpec)

/-- ITS FALSE NEIGHBOUR: 'it returns false'. Refute it at one input. -/
def solveRangeMatchesSpecWrong : ChangeSpec := { name := "solveRangeMatchesSpec", fn := fun _ => fun
  | [d1, d2, d3] => { results := [.lit (.bool false)], args := [d1, d2, d3] }
  | _ => none }
def SolveRangeMatchesSpecWrongFalsely : Prop := solveRangeMatchesSpecRow.holds Tryz.pinned (OpenSpec.ofChange solveRangeMatchesSpecWrong)

/-- 'fetterlocklaw6.SolveEntailsMatchesSpec': WHATEVER THE INPUT: true; the input reads as it did. -/
def solveEntailsMatchesSpecSpec : ChangeSpec := { name := "solveEntailsMatchesSpec", fn := fun _ => fun
  | [d1, d2] => { results := [.lit (.bool true)], args := [d1, d2] }
  | _ => none }
def solveEntailsMatchesSpecRow : OpenClaim := { program := "ytijdglogadnbcaagreat", sum := "bbdba466a963a679b8db5314ec115004252c52cdd94c7f6d93ddcc42df6405be", func := "fetterlock/fetterlocklaw6.SolveEntailsMatchesSpec", spec := "solveEntailsMatchesSpec", unfollowed := true, recurses := true, apart := false }
def SolveEntailsMatchesSpecSaid : Prop := solveEntailsMatchesSpecRow.holds Tryz.pinned (OpenSpec.ofChange solveEntailsMatchesSpecSpec)

/-- ITS FALSE NEIGHBOUR: 'it returns false'. Refute it at one input. -/
def solveEntailsMatchesSpecWrong : ChangeSpec := { name := "solveEntailsMatchesSpec", fn := fun _ => fun
  | [d1, d2] => { results := [.lit (.bool false)], args := [d1, d2] }
  | _ => none }
def SolveEntailsMatchesSpecWrongFalsely : Prop := solveEntailsMatchesSpecRow.holds Tryz.pinned (OpenSpec.ofChange solveEntailsMatchesSpecWrong)

/-- 'fetterlocklaw6.SolveBestIsReached': WHATEVER THE INPUT: true; the input reads as it did. -/
def solveBestIsReachedSpec : ChangeSpec := { name := "solveBestIsReached", fn := fun _ => fun
  | [d1, d2, d3] => { results := [.lit (.bool true)], args := [d1, d2, d3] }
  | _ => none }
def solveBestIsReachedRow : OpenClaim := { program := "ytijdglogadnbcaagreat", sum := "bbdba466a963a679b8db5314ec115004252c52cdd94c7f6d93ddcc42df6405be", func := "fetterlock/fetterlocklaw6.SolveBestIsReached", spec := "solveBestIsReached", unfollowed := true, recurses := true, apart := false }
def SolveBestIsReachedSaid : Prop := solveBestIsReachedRow.holds Tryz.pinned (OpenSpec.ofChange solveBestIsReachedSpec)

/-- ITS FALSE NEIGHBOUR: 'it returns false'. Refute it at one input. -/
def solveBestIsReachedWrong : ChangeSpec := { name := "solveBestIsReached", fn := fun _ => fun
  | [d1, d2, d3] => { results := [.lit (.bool false)], args := [d1, d2, d3] }
  | _ => none }
def SolveBestIsReachedWrongFalsely : Prop := solveBestIsReachedRow.holds Tryz.pinned (OpenSpec.ofChange solveBestIsReachedWrong)

/-- 'fetterlocklaw6.SolveRefutesMatchesSpec': WHATEVER THE INPUT: true; the input reads as it did. -/
def solveRefutesMatchesSpecSpec : ChangeSpec := { name := "solveRefutesMatchesSpec", fn := fun _ => fun
  | [d1, d2, d3] => { results := [.lit (.bool true)], args := [d1, d2, d3] }
  | _ => none }
def solveRefutesMatchesSpecRow : OpenClaim := { program := "ytijdglogadnbcaagreat", sum := "bbdba466a963a679b8db5314ec115004252c52cdd94c7f6d93ddcc42df6405be", func := "fetterlock/fetterlocklaw6.SolveRefutesMatchesSpec", spec := "solveRefutesMatchesSpec", unfollowed := true, recurses := true, apart := false }
def SolveRefutesMatchesSpecSaid : Prop := solveRefutesMatchesSpecRow.holds Tryz.pinned (OpenSpec.ofChange solveRefutesMatchesSpecSpec)

/-- ITS FALSE NEIGHBOUR: 'it returns false'. Refute it at one input. -/
def solveRefutesMatchesSpecWrong : ChangeSpec := { name := "solveRefutesMatchesSpec", fn := fun _ => fun
  | [d1, d2, d3] => { results := [.lit (.bool false)], args := [d1, d2, d3] }
  | _ => none }
def SolveRefutesMatchesSpecWrongFalsely : Prop := solveRefutesMatchesSpecRow.holds Tryz.pinned (OpenSpec.ofChange solveRefutesMatchesSpecWrong)

/-- 'fetterlocklaw6.SolveRefuteIsAProof': WHATEVER THE INPUT: true; the input reads as it did. -/
def solveRefuteIsAProofSpec : ChangeSpec := { name := "solveRefuteIsAProof", fn := fun _ => fun
  | [d1, d2] => { results := [.lit (.bool true)], args := [d1, d2] }
  | _ => none }
def solveRefuteIsAProofRow : OpenClaim := { program := "ytijdglogadnbcaagreat", sum := "bbdba466a963a679b8db5314ec115004252c52cdd94c7f6d93ddcc42df6405be", func := "fetterlock/fetterlocklaw6.SolveRefuteIsAProof", spec := "solveRefuteIsAProof", unfollowed := true, recurses := true, apart := false }
def SolveRefuteIsAProofSaid : Prop := solveRefuteIsAProofRow.holds Tryz.pinned (OpenSpec.ofChange solveRefuteIsAProofSpec)

/-- ITS FALSE NEIGHBOUR: 'it returns false'. Refute it at one input. -/
def solveRefuteIsAProofWrong : ChangeSpec := { name := "solveRefuteIsAProof", fn := fun _ => fun
  | [d1, d2] => { results := [.lit (.bool false)], args := [d1, d2] }
  | _ => none }
def SolveRefuteIsAProofWrongFalsely : Prop := solveRefuteIsAProofRow.holds Tryz.pinned (OpenSpec.ofChange solveRefuteIsAProofWrong)

/-- 'fetterlocklaw6.SolveProjectIsAShadow': WHATEVER THE INPUT: true; the input reads as it did. -/
def solveProjectIsAShadowSpec : ChangeSpec := { name := "solveProjectIsAShadow", fn := fun _ => fun
  | [d1, d2] => { results := [.lit (.bool true)], args := [d1, d2] }
  | _ => none }
def solveProjectIsAShadowRow : OpenClaim := { program := "ytijdglogadnbcaagreat", sum := "bbdba466a963a679b8db5314ec115004252c52cdd94c7f6d93ddcc42df6405be", func := "fetterlock/fetterlocklaw6.SolveProjectIsAShadow", spec := "solveProjectIsAShadow", unfollowed := true, recurses := true, apart := false }
def SolveProjectIsAShadowSaid : Prop := solveProjectIsAShadowRow.holds Tryz.pinned (OpenSpec.ofChange solveProjectIsAShadowSpec)

/-- ITS FALSE NEIGHBOUR: 'it returns false'. Refute it at one input. -/
def solveProjectIsAShadowWrong : ChangeSpec := { name := "solveProjectIsAShadow", fn := fun _ => fun
  | [d1, d2] => { results := [.lit (.bool false)], args := [d1, d2] }
  | _ => none }
def SolveProjectIsAShadowWrongFalsely : Prop := solveProjectIsAShadowRow.holds Tryz.pinned (OpenSpec.ofChange solveProjectIsAShadowWrong)

/- THE SECOND FORM. 'bulk': how many values and letters a reading holds, each counted each time it is reached (what is shared counts as often as it is met; a slice's spare places count too). A statement '..UptoSaid' is the law's where the arguments, and the package variables that the reading takes, are together of bulk at most 1048576: NARROWER than '..Said'. Prove '..Said' where nothing that the law and all that it calls make is longer than what came in: it says more and counts as full. Else prove '..UptoSaid'. A law counts once. -/
mutual
def uptoBulk {H : Type} : DataW H → Nat
  | .lit (.string bytes) => bytes.length + 1
  | .lit _ => 1
  | .nil => 1
  | .ptr d => uptoBulk d + 1
  | .slice elems spare => uptoBulkAll elems + uptoBulkAll spare + 1
  | .agg parts => uptoBulkAll parts + 1
  | .iface _ d => uptoBulk d + 1
  | .map entries => uptoBulkEntries entries + 1
  | .held _ => 1
def uptoBulkAll {H : Type} : List (DataW H) → Nat
  | [] => 0
  | d :: r => uptoBulk d + uptoBulkAll r
def uptoBulkEntries {H : Type} : List (Lit × DataW H) → Nat
  | [] => 0
  | x :: r => uptoBulkEntry x + uptoBulkEntries r
def uptoBulkEntry {H : Type} : Lit × DataW H → Nat
  | (.string bytes, d) => bytes.length + uptoBulk d + 1
  | (_, d) => uptoBulk d + 1
 end
def uptoSmall : (H : Type) → List (DataW H) → Bool := fun _ ds => decide (uptoBulkAll ds ≤ 1048576)
def OpenSpec.upto (s : _root_.Go.ChangeSpec) : _root_.Go.OpenSpec := { _root_.Go.OpenSpec.ofChange s with cond := some uptoSmall }

/-- 'fetterlocklaw6.SolveRowMatchesSpec', WHERE WHAT IT READS IS OF BULK AT MOST 1048576: true; the input reads as it did. -/
def solveRowMatchesSpecUptoRow : OpenClaim := { program := "ytijdglogadnbcaagreat", sum := "bbdba466a963a679b8db5314ec115004252c52cdd94c7f6d93ddcc42df6405be", func := "fetterlock/fetterlocklaw6.SolveRowMatchesSpec", spec := "solveRowMatchesSpec", unfollowed := true, recurses := true, apart := false, narrowed := true }
def SolveRowMatchesSpecUptoSaid : Prop := solveRowMatchesSpecUptoRow.holds Tryz.pinned (OpenSpec.upto solveRowMatchesSpecSpec)

/-- 'fetterlocklaw6.SolveRangeIsTight', WHERE WHAT IT READS IS OF BULK AT MOST 1048576: true; the input reads as it did. -/
def solveRangeIsTightUptoRow : OpenClaim := { program := "ytijdglogadnbcaagreat", sum := "bbdba466a963a679b8db5314ec115004252c52cdd94c7f6d93ddcc42df6405be", func := "fetterlock/fetterlocklaw6.SolveRangeIsTight", spec := "solveRangeIsTight", unfollowed := true, recurses := true, apart := false, narrowed := true }
def SolveRangeIsTightUptoSaid : Prop := solveRangeIsTightUptoRow.holds Tryz.pinned (OpenSpec.upto solveRangeIsTightSpec)

/-- 'fetterlocklaw6.SolveEntailedChangesNothing', WHERE WHAT IT READS IS OF BULK AT MOST 1048576: true; the input reads as it did. -/
def solveEntailedChangesNothingUptoRow : OpenClaim := { program := "ytijdglogadnbcaagreat", sum := "bbdba466a963a679b8db5314ec115004252c52cdd94c7f6d93ddcc42df6405be", func := "fetterlock/fetterlocklaw6.SolveEntailedChangesNothing", spec := "solveEntailedChangesNothing", unfollowed := true, recurses := true, apart := false, narrowed := true }
def SolveEntailedChangesNothingUptoSaid : Prop := solveEntailedChangesNothingUptoRow.holds Tryz.pinned (OpenSpec.upto solveEntailedChangesNothingSpec)

/-- 'fetterlocklaw6.SolveSystemMatchesSpec', WHERE WHAT IT READS IS OF BULK AT MOST 1048576: true; the input reads as it did. -/
def solveSystemMatchesSpecUptoRow : OpenClaim := { program := "ytijdglogadnbcaagreat", sum := "bbdba466a963a679b8db5314ec115004252c52cdd94c7f6d93ddcc42df6405be", func := "fetterlock/fetterlocklaw6.SolveSystemMatchesSpec", spec := "solveSystemMatchesSpec", unfollowed := true, recurses := true, apart := false, narrowed := true }
def SolveSystemMatchesSpecUptoSaid : Prop := solveSystemMatchesSpecUptoRow.holds Tryz.pinned (OpenSpec.upto solveSystemMatchesSpecSpec)

/-- 'fetterlocklaw6.SolveUndoRestores', WHERE WHAT IT READS IS OF BULK AT MOST 1048576: true; the input reads as it did. -/
def solveUndoRestoresUptoRow : OpenClaim := { program := "ytijdglogadnbcaagreat", sum := "bbdba466a963a679b8db5314ec115004252c52cdd94c7f6d93ddcc42df6405be", func := "fetterlock/fetterlocklaw6.SolveUndoRestores", spec := "solveUndoRestores", unfollowed := true, recurses := true, apart := false, narrowed := true }
def SolveUndoRestoresUptoSaid : Prop := solveUndoRestoresUptoRow.holds Tryz.pinned (OpenSpec.upto solveUndoRestoresSpec)

/-- 'fetterlocklaw6.SolveRangeMatchesSpec', WHERE WHAT IT READS IS OF BULK AT MOST 1048576: true; the input reads as it did. -/
def solveRangeMatchesSpecUptoRow : OpenClaim := { program := "ytijdglogadnbcaagreat", sum := "bbdba466a963a679b8db5314ec115004252c52cdd94c7f6d93ddcc42df6405be", func := "fetterlock/fetterlocklaw6.SolveRangeMatchesSpec", spec := "solveRangeMatchesSpec", unfollowed := true, recurses := true, apart := false, narrowed := true }
def SolveRangeMatchesSpecUptoSaid : Prop := solveRangeMatchesSpecUptoRow.holds Tryz.pinned (OpenSpec.upto solveRangeMatchesSpecSpec)

/-- 'fetterlocklaw6.SolveEntailsMatchesSpec', WHERE WHAT IT READS IS OF BULK AT MOST 1048576: true; the input reads as it did. -/
def solveEntailsMatchesSpecUptoRow : OpenClaim := { program := "ytijdglogadnbcaagreat", sum := "bbdba466a963a679b8db5314ec115004252c52cdd94c7f6d93ddcc42df6405be", func := "fetterlock/fetterlocklaw6.SolveEntailsMatchesSpec", spec := "solveEntailsMatchesSpec", unfollowed := true, recurses := true, apart := false, narrowed := true }
def SolveEntailsMatchesSpecUptoSaid : Prop := solveEntailsMatchesSpecUptoRow.holds Tryz.pinned (OpenSpec.upto solveEntailsMatchesSpecSpec)

/-- 'fetterlocklaw6.SolveBestIsReached', WHERE WHAT IT READS IS OF BULK AT MOST 1048576: true; the input reads as it did. -/
def solveBestIsReachedUptoRow : OpenClaim := { program := "ytijdglogadnbcaagreat", sum := "bbdba466a963a679b8db5314ec115004252c52cdd94c7f6d93ddcc42df6405be", func := "fetterlock/fetterlocklaw6.SolveBestIsReached", spec := "solveBestIsReached", unfollowed := true, recurses := true, apart := false, narrowed := true }
def SolveBestIsReachedUptoSaid : Prop := solveBestIsReachedUptoRow.holds Tryz.pinned (OpenSpec.upto solveBestIsReachedSpec)

/-- 'fetterlocklaw6.SolveRefutesMatchesSpec', WHERE WHAT IT READS IS OF BULK AT MOST 1048576: true; the input reads as it did. -/
def solveRefutesMatchesSpecUptoRow : OpenClaim := { program := "ytijdglogadnbcaagreat", sum := "bbdba466a963a679b8db5314ec115004252c52cdd94c7f6d93ddcc42df6405be", func := "fetterlock/fetterlocklaw6.SolveRefutesMatchesSpec", spec := "solveRefutesMatchesSpec", unfollowed := true, recurses := true, apart := false, narrowed := true }
def SolveRefutesMatchesSpecUptoSaid : Prop := solveRefutesMatchesSpecUptoRow.holds Tryz.pinned (OpenSpec.upto solveRefutesMatchesSpecSpec)

/-- 'fetterlocklaw6.SolveRefuteIsAProof', WHERE WHAT IT READS IS OF BULK AT MOST 1048576: true; the input reads as it did. -/
def solveRefuteIsAProofUptoRow : OpenClaim := { program := "ytijdglogadnbcaagreat", sum := "bbdba466a963a679b8db5314ec115004252c52cdd94c7f6d93ddcc42df6405be", func := "fetterlock/fetterlocklaw6.SolveRefuteIsAProof", spec := "solveRefuteIsAProof", unfollowed := true, recurses := true, apart := false, narrowed := true }
def SolveRefuteIsAProofUptoSaid : Prop := solveRefuteIsAProofUptoRow.holds Tryz.pinned (OpenSpec.upto solveRefuteIsAProofSpec)

/-- 'fetterlocklaw6.SolveProjectIsAShadow', WHERE WHAT IT READS IS OF BULK AT MOST 1048576: true; the input reads as it did. -/
def solveProjectIsAShadowUptoRow : OpenClaim := { program := "ytijdglogadnbcaagreat", sum := "bbdba466a963a679b8db5314ec115004252c52cdd94c7f6d93ddcc42df6405be", func := "fetterlock/fetterlocklaw6.SolveProjectIsAShadow", spec := "solveProjectIsAShadow", unfollowed := true, recurses := true, apart := false, narrowed := true }
def SolveProjectIsAShadowUptoSaid : Prop := solveProjectIsAShadowUptoRow.holds Tryz.pinned (OpenSpec.upto solveProjectIsAShadowSpec)

end Rows
end Go.Proofs.YtijdglogadnbcaaGreat
