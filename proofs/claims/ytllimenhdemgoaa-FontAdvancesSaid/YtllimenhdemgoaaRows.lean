/-
  No cell of these rows narrows 'for every input' (looked for: loops, veiled, ifaces, maps, wideKeys, modest, calm, conditions, laid).
  DERIVED. THE GIVEN ROWS OF THIS SEAT. 5 by the template 'for every input the law returns true; each argument reads behind the call as it read before'; 0 by the template 'total and deterministic' (their statements: YtllimenhdemgoaaTotals.lean).
  GIVEN WITH THE SEED: the statements are not yours to turn. If you find one false, say at which input.
  Laid BY PROGRAM, IN A SANDBOX (cutbox-rows.mjs): the forced cells as the released guide's own fill.sh prints them over the translation d3ecc3ecfba4d7d5… (all of the seat's roots in one cut). By AI agents, Wed Nov 11 2026. No macro, syntax, notation, axiom, sorry.
-/
import Derived.Test.YtllimenhdemgoaaChecked
import GoSem.Claim
import GoSem.ClaimJoined
import GoSem.ClaimMapViews
import Derived.JoinedTies
import Derived.KernelRfl
namespace Go.Proofs.Ytllimenhdemgoaa
/- THE CELL 'sum', in the pinned program and in every row, IS THE sha256 OF THE DUMP (.gsa) THAT YtllimenhdemgoaaProg.lean LOADS. Nothing in Lean hashes anything: it is a label: what it is worth is what the hold of that sum in a sandbox is worth. -/
noncomputable def Try.pinned : Pinned := { name := "ytllimenhdemgoaa", sum := "d3ecc3ecfba4d7d51be09a6f290897e7abece2c8e277ec59e2ace60e64cbb69d", checked := Try.checked }
namespace Rows
def none {H : Type} : Left H := { results := [], args := [] }

/-- 'formelaw07.FontMatchesReference': WHATEVER THE INPUT: true; the input reads as it did. -/
def fontMatchesReferenceSpec : ChangeSpec := { name := "fontMatchesReference", fn := fun _ => fun
  | [d1, d2, d3, d4] => { results := [.lit (.bool true)], args := [d1, d2, d3, d4] }
  | _ => none }
def fontMatchesReferenceRow : OpenClaim := { program := "ytllimenhdemgoaa", sum := "d3ecc3ecfba4d7d51be09a6f290897e7abece2c8e277ec59e2ace60e64cbb69d", func := "forme/formelaw07.FontMatchesReference", spec := "fontMatchesReference", unfollowed := true, recurses := true, apart := false }
def FontMatchesReferenceSaid : Prop := fontMatchesReferenceRow.holds Try.pinned (OpenSpec.ofChange fontMatchesReferenceSpec)

/-- ITS FALSE NEIGHBOUR: 'it returns false'. Refute it at one input. -/
def fontMatchesReferenceWrong : ChangeSpec := { name := "fontMatchesReference", fn := fun _ => fun
  | [d1, d2, d3, d4] => { results := [.lit (.bool false)], args := [d1, d2, d3, d4] }
  | _ => none }
def FontMatchesReferenceWrongFalsely : Prop := fontMatchesReferenceRow.holds Try.pinned (OpenSpec.ofChange fontMatchesReferenceWrong)

/-- 'formelaw07.FontJoins': WHATEVER THE INPUT: true; the input reads as it did. -/
def fontJoinsSpec : ChangeSpec := { name := "fontJoins", fn := fun _ => fun
  | [d1, d2, d3] => { results := [.lit (.bool true)], args := [d1, d2, d3] }
  | _ => none }
def fontJoinsRow : OpenClaim := { program := "ytllimenhdemgoaa", sum := "d3ecc3ecfba4d7d51be09a6f290897e7abece2c8e277ec59e2ace60e64cbb69d", func := "forme/formelaw07.FontJoins", spec := "fontJoins", unfollowed := true, recurses := true, apart := false }
def FontJoinsSaid : Prop := fontJoinsRow.holds Try.pinned (OpenSpec.ofChange fontJoinsSpec)

/-- ITS FALSE NEIGHBOUR: 'it returns false'. Refute it at one input. -/
def fontJoinsWrong : ChangeSpec := { name := "fontJoins", fn := fun _ => fun
  | [d1, d2, d3] => { results := [.lit (.bool false)], args := [d1, d2, d3] }
  | _ => none }
def FontJoinsWrongFalsely : Prop := fontJoinsRow.holds Try.pinned (OpenSpec.ofChange fontJoinsWrong)

/-- 'formelaw07.FontHyphens': WHATEVER THE INPUT: true; the input reads as it did. -/
def fontHyphensSpec : ChangeSpec := { name := "fontHyphens", fn := fun _ => fun
  | [d1, d2, d3, d4] => { results := [.lit (.bool true)], args := [d1, d2, d3, d4] }
  | _ => none }
def fontHyphensRow : OpenClaim := { program := "ytllimenhdemgoaa", sum := "d3ecc3ecfba4d7d51be09a6f290897e7abece2c8e277ec59e2ace60e64cbb69d", func := "forme/formelaw07.FontHyphens", spec := "fontHyphens", unfollowed := true, recurses := true, apart := false }
def FontHyphensSaid : Prop := fontHyphensRow.holds Try.pinned (OpenSpec.ofChange fontHyphensSpec)

/-- ITS FALSE NEIGHBOUR: 'it returns false'. Refute it at one input. -/
def fontHyphensWrong : ChangeSpec := { name := "fontHyphens", fn := fun _ => fun
  | [d1, d2, d3, d4] => { results := [.lit (.bool false)], args := [d1, d2, d3, d4] }
  | _ => none }
def FontHyphensWrongFalsely : Prop := fontHyphensRow.holds Try.pinned (OpenSpec.ofChange fontHyphensWrong)

/-- 'formelaw07.FontScales': WHATEVER THE INPUT: true; the input reads as it did. -/
def fontScalesSpec : ChangeSpec := { name := "fontScales", fn := fun _ => fun
  | [d1, d2, d3, d4] => { results := [.lit (.bool true)], args := [d1, d2, d3, d4] }
  | _ => none }
def fontScalesRow : OpenClaim := { program := "ytllimenhdemgoaa", sum := "d3ecc3ecfba4d7d51be09a6f290897e7abece2c8e277ec59e2ace60e64cbb69d", func := "forme/formelaw07.FontScales", spec := "fontScales", unfollowed := true, recurses := true, apart := false }
def FontScalesSaid : Prop := fontScalesRow.holds Try.pinned (OpenSpec.ofChange fontScalesSpec)

/-- ITS FALSE NEIGHBOUR: 'it returns false'. Refute it at one input. -/
def fontScalesWrong : ChangeSpec := { name := "fontScales", fn := fun _ => fun
  | [d1, d2, d3, d4] => { results := [.lit (.bool false)], args := [d1, d2, d3, d4] }
  | _ => none }
def FontScalesWrongFalsely : Prop := fontScalesRow.holds Try.pinned (OpenSpec.ofChange fontScalesWrong)

/-- 'formelaw07.FontAdvances': WHATEVER THE INPUT: true; the input reads as it did. -/
def fontAdvancesSpec : ChangeSpec := { name := "fontAdvances", fn := fun _ => fun
  | [d1, d2, d3, d4, d5] => { results := [.lit (.bool true)], args := [d1, d2, d3, d4, d5] }
  | _ => none }
def fontAdvancesRow : OpenClaim := { program := "ytllimenhdemgoaa", sum := "d3ecc3ecfba4d7d51be09a6f290897e7abece2c8e277ec59e2ace60e64cbb69d", func := "forme/formelaw07.FontAdvances", spec := "fontAdvances", unfollowed := true, recurses := true, apart := false }
def FontAdvancesSaid : Prop := fontAdvancesRow.holds Try.pinned (OpenSpec.ofChange fontAdvancesSpec)

/-- ITS FALSE NEIGHBOUR: 'it returns false'. Refute it at one input. -/
def fontAdvancesWrong : ChangeSpec := { name := "fontAdvances", fn := fun _ => fun
  | [d1, d2, d3, d4, d5] => { results := [.lit (.bool false)], args := [d1, d2, d3, d4, d5] }
  | _ => none }
def FontAdvancesWrongFalsely : Prop := fontAdvancesRow.holds Try.pinned (OpenSpec.ofChange fontAdvancesWrong)

/- THE SECOND FORM. 'bulk': how many values and letters a reading holds, each counted each time it is reached (what is shared counts as often as it is met; a slice's spare places count too). A statement '..UptoSaid' is the law's where the arguments, and the package variables that the reading takes, are together of bulk at most 1048576: NARROWER than '..Said'. Prove '..Said' where nothing that the law and all that it calls make is longer than what came in: it says more and counts as full. Else prove '..UptoSaid'. A law counts once. -/
mutual
def uptoBulk {H : Type} : DataW H → Nat
  | .lit (.string bytes) => bytes.length + 1
  | .lit _ => 1
  | .nil => 1
  | .ptr d => uptoBulk d + 1
  | .slice elems spare => uptoBulkAll elems + uptoBulkAll spare + 1
  | .agg parts => uptoBulkAll parts + 1
  | .iface _ d => uptoBulk d + 1
  | .map entries => uptoBulkEntries entries + 1
  | .held _ => 1
def uptoBulkAll {H : Type} : List (DataW H) → Nat
  | [] => 0
  | d :: r => uptoBulk d + uptoBulkAll r
def uptoBulkEntries {H : Type} : List (Lit × DataW H) → Nat
  | [] => 0
  | x :: r => uptoBulkEntry x + uptoBulkEntries r
def uptoBulkEntry {H : Type} : Lit × DataW H → Nat
  | (.string bytes, d) => bytes.length + uptoBulk d + 1
  | (_, d) => uptoBulk d + 1
 end
def uptoSmall : (H : Type) → List (DataW H) → Bool := fun _ ds => decide (uptoBulkAll ds ≤ 1048576)
def OpenSpec.upto (s : _root_.Go.ChangeSpec) : _root_.Go.OpenSpec := { _root_.Go.OpenSpec.ofChange s with cond := some uptoSmall }

/-- 'formelaw07.FontMatchesReference', WHERE WHAT IT READS IS OF BULK AT MOST 1048576: true; the input reads as it did. -/
def fontMatchesReferenceUptoRow : OpenClaim := { program := "ytllimenhdemgoaa", sum := "d3ecc3ecfba4d7d51be09a6f290897e7abece2c8e277ec59e2ace60e64cbb69d", func := "forme/formelaw07.FontMatchesReference", spec := "fontMatchesReference", unfollowed := true, recurses := true, apart := false, narrowed := true }
def FontMatchesReferenceUptoSaid : Prop := fontMatchesReferenceUptoRow.holds Try.pinned (OpenSpec.upto fontMatchesReferenceSpec)

/-- 'formelaw07.FontJoins', WHERE WHAT IT READS IS OF BULK AT MOST 1048576: true; the input reads as it did. -/
def fontJoinsUptoRow : OpenClaim := { program := "ytllimenhdemgoaa", sum := "d3ecc3ecfba4d7d51be09a6f290897e7abece2c8e277ec59e2ace60e64cbb69d", func := "forme/formelaw07.FontJoins", spec := "fontJoins", unfollowed := true, recurses := true, apart := false, narrowed := true }
def FontJoinsUptoSaid : Prop := fontJoinsUptoRow.holds Try.pinned (OpenSpec.upto fontJoinsSpec)

/-- 'formelaw07.FontHyphens', WHERE WHAT IT READS IS OF BULK AT MOST 1048576: true; the input reads as it did. -/
def fontHyphensUptoRow : OpenClaim := { program := "ytllimenhdemgoaa", sum := "d3ecc3ecfba4d7d51be09a6f290897e7abece2c8e277ec59e2ace60e64cbb69d", func := "forme/formelaw07.FontHyphens", spec := "fontHyphens", unfollowed := true, recurses := true, apart := false, narrowed := true }
def FontHyphensUptoSaid : Prop := fontHyphensUptoRow.holds Try.pinned (OpenSpec.upto fontHyphensSpec)

/-- 'formelaw07.FontScales', WHERE WHAT IT READS IS OF BULK AT MOST 1048576: true; the input reads as it did. -/
def fontScalesUptoRow : OpenClaim := { program := "ytllimenhdemgoaa", sum := "d3ecc3ecfba4d7d51be09a6f290897e7abece2c8e277ec59e2ace60e64cbb69d", func := "forme/formelaw07.FontScales", spec := "fontScales", unfollowed := true, recurses := true, apart := false, narrowed := true }
def FontScalesUptoSaid : Prop := fontScalesUptoRow.holds Try.pinned (OpenSpec.upto fontScalesSpec)

/-- 'formelaw07.FontAdvances', WHERE WHAT IT READS IS OF BULK AT MOST 1048576: true; the input reads as it did. -/
def fontAdvancesUptoRow : OpenClaim := { program := "ytllimenhdemgoaa", sum := "d3ecc3ecfba4d7d51be09a6f290897e7abece2c8e277ec59e2ace60e64cbb69d", func := "forme/formelaw07.FontAdvances", spec := "fontAdvances", unfollowed := true, recurses := true, apart := false, narrowed := true }
def FontAdvancesUptoSaid : Prop := fontAdvancesUptoRow.holds Try.pinned (OpenSpec.upto fontAdvancesSpec)

end Rows
end Go.Proofs.Ytllimenhdemgoaa
