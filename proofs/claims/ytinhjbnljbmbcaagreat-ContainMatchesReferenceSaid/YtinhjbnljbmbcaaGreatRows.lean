/-
  NARROWER THAN 'FOR EVERY INPUT', by the rows' own cells (each row's printed sentence says how): ContainMatchesReference: loops · ContainStyles: loops · ContainPaths: loops · ContainWidths: loops · ContainBoxes: loops · ContainTexts: loops.
  DERIVED. THE GIVEN ROWS OF THIS SEAT. 6 by the template 'for every input the law returns true; each argument reads behind the call as it read before'; 0 by the template 'total and deterministic' (their statements: YtinhjbnljbmbcaaGreatTotals.lean).
  GIVEN WITH THE SEED: the statements are not yours to turn. If you find one false, say at which input.
  Laid BY PROGRAM, IN A SANDBOX (cutbox-rows.mjs): the forced cells as the released guide's own fill.sh prints them over the translation 5b2095541120e777… (all of the seat's roots in one cut). By AI agents, Wed Nov 11 2026. No macro, syntax, notation, axiom, sorry.
-/
import Derived.Test.YtinhjbnljbmbcaaGreatChecked
import GoSem.Claim
import GoSem.ClaimJoined
import GoSem.ClaimMapViews
import Derived.JoinedTies
import Derived.KernelRfl
namespace Go.Proofs.YtinhjbnljbmbcaaGreat
/- THE CELL 'sum', in the pinned program and in every row, IS THE sha256 OF THE DUMP (.gsa) THAT YtinhjbnljbmbcaaGreatProg.lean LOADS. Nothing in Lean hashes anything: it is a label: what it is worth is what the hold of that sum in a sandbox is worth. -/
noncomputable def Tryz.pinned : Pinned := { name := "ytinhjbnljbmbcaagreat", sum := "5b2095541120e777290ebacbfc782ce2fb1949e3c7580594bc4cf709ade4904e", checked := Tryz.checked }
namespace Rows
def none {H : Type} : Left H := { results := [], args := [] }

/-- 'formelaw16.ContainMatchesReference': WHATEVER THE INPUT: true; the input reads as it did. -/
def containMatchesReferenceSpec : ChangeSpec := { name := "containMatchesReference", fn := fun _ => fun
  | [d1, d2, d3] => { results := [.lit (.bool true)], args := [d1, d2, d3] }
  | _ => none }
def containMatchesReferenceRow : OpenClaim := { program := "ytinhjbnljbmbcaagreat", sum := "5b2095541120e777290ebacbfc782ce2fb1949e3c7580594bc4cf709ade4904e", func := "forme/formelaw16.ContainMatchesReference", spec := "containMatchesReference", unfollowed := true, recurses := true, loops := true, apart := false }
def ContainMatchesReferenceSaid : Prop := containMatchesReferenceRow.holds Tryz.pinned (OpenSpec.ofChange containMatchesReferenceSpec)

/-- ITS FALSE NEIGHBOUR: 'it returns false'. Refute it at one input. -/
def containMatchesReferenceWrong : ChangeSpec := { name := "containMatchesReference", fn := fun _ => fun
  | [d1, d2, d3] => { results := [.lit (.bool false)], args := [d1, d2, d3] }
  | _ => none }
def ContainMatchesReferenceWrongFalsely : Prop := containMatchesReferenceRow.holds Tryz.pinned (OpenSpec.ofChange containMatchesReferenceWrong)

/-- 'formelaw16.ContainStyles': WHATEVER THE INPUT: true; the input reads as it did. -/
def containStylesSpec : ChangeSpec := { name := "containStyles", fn := fun _ => fun
  | [d1, d2, d3] => { results := [.lit (.bool true)], args := [d1, d2, d3] }
  | _ => none }
def containStylesRow : OpenClaim := { program := "ytinhjbnljbmbcaagreat", sum := "5b2095541120e777290ebacbfc782ce2fb1949e3c7580594bc4cf709ade4904e", func := "forme/formelaw16.ContainStyles", spec := "containStyles", unfollowed := true, recurses := true, loops := true, apart := false }
def ContainStylesSaid : Prop := containStylesRow.holds Tryz.pinned (OpenSpec.ofChange containStylesSpec)

/-- ITS FALSE NEIGHBOUR: 'it returns false'. Refute it at one input. -/
def containStylesWrong : ChangeSpec := { name := "containStyles", fn := fun _ => fun
  | [d1, d2, d3] => { results := [.lit (.bool false)], args := [d1, d2, d3] }
  | _ => none }
def ContainStylesWrongFalsely : Prop := containStylesRow.holds Tryz.pinned (OpenSpec.ofChange containStylesWrong)

/-- 'formelaw16.ContainPaths': WHATEVER THE INPUT: true; the input reads as it did. -/
def containPathsSpec : ChangeSpec := { name := "containPaths", fn := fun _ => fun
  | [d1, d2, d3] => { results := [.lit (.bool true)], args := [d1, d2, d3] }
  | _ => none }
def containPathsRow : OpenClaim := { program := "ytinhjbnljbmbcaagreat", sum := "5b2095541120e777290ebacbfc782ce2fb1949e3c7580594bc4cf709ade4904e", func := "forme/formelaw16.ContainPaths", spec := "containPaths", unfollowed := true, recurses := true, loops := true, apart := false }
def ContainPathsSaid : Prop := containPathsRow.holds Tryz.pinned (OpenSpec.ofChange containPathsSpec)

/-- ITS FALSE NEIGHBOUR: 'it returns false'. Refute it at one input. -/
def containPathsWrong : ChangeSpec := { name := "containPaths", fn := fun _ => fun
  | [d1, d2, d3] => { results := [.lit (.bool false)], args := [d1, d2, d3] }
  | _ => none }
def ContainPathsWrongFalsely : Prop := containPathsRow.holds Tryz.pinned (OpenSpec.ofChange containPathsWrong)

/-- 'formelaw16.ContainWidths': WHATEVER THE INPUT: true; the input reads as it did. -/
def containWidthsSpec : ChangeSpec := { name := "containWidths", fn := fun _ => fun
  | [d1, d2, d3] => { results := [.lit (.bool true)], args := [d1, d2, d3] }
  | _ => none }
def containWidthsRow : OpenClaim := { program := "ytinhjbnljbmbcaagreat", sum := "5b2095541120e777290ebacbfc782ce2fb1949e3c7580594bc4cf709ade4904e", func := "forme/formelaw16.ContainWidths", spec := "containWidths", unfollowed := true, recurses := true, loops := true, apart := false }
def ContainWidthsSaid : Prop := containWidthsRow.holds Tryz.pinned (OpenSpec.ofChange containWidthsSpec)

/-- ITS FALSE NEIGHBOUR: 'it returns false'. Refute it at one input. -/
def containWidthsWrong : ChangeSpec := { name := "containWidths", fn := fun _ => fun
  | [d1, d2, d3] => { results := [.lit (.bool false)], args := [d1, d2, d3] }
  | _ => none }
def ContainWidthsWrongFalsely : Prop := containWidthsRow.holds Tryz.pinned (OpenSpec.ofChange containWidthsWrong)

/-- 'formelaw16.ContainBoxes': WHATEVER THE INPUT: true; the input reads as it did. -/
def containBoxesSpec : ChangeSpec := { name := "containBoxes", fn := fun _ => fun
  | [d1, d2, d3] => { results := [.lit (.bool true)], args := [d1, d2, d3] }
  | _ => none }
def containBoxesRow : OpenClaim := { program := "ytinhjbnljbmbcaagreat", sum := "5b2095541120e777290ebacbfc782ce2fb1949e3c7580594bc4cf709ade4904e", func := "forme/formelaw16.ContainBoxes", spec := "containBoxes", unfollowed := true, recurses := true, loops := true, apart := false }
def ContainBoxesSaid : Prop := containBoxesRow.holds Tryz.pinned (OpenSpec.ofChange containBoxesSpec)

/-- ITS FALSE NEIGHBOUR: 'it returns false'. Refute it at one input. -/
def containBoxesWrong : ChangeSpec := { name := "containBoxes", fn := fun _ => fun
  | [d1, d2, d3] => { results := [.lit (.bool false)], args := [d1, d2, d3] }
  | _ => none }
def ContainBoxesWrongFalsely : Prop := containBoxesRow.holds Tryz.pinned (OpenSpec.ofChange containBoxesWrong)

/-- 'formelaw16.ContainTexts': WHATEVER THE INPUT: true; the input reads as it did. -/
def containTextsSpec : ChangeSpec := { name := "containTexts", fn := fun _ => fun
  | [d1, d2, d3, d4, d5] => { results := [.lit (.bool true)], args := [d1, d2, d3, d4, d5] }
  | _ => none }
def containTextsRow : OpenClaim := { program := "ytinhjbnljbmbcaagreat", sum := "5b2095541120e777290ebacbfc782ce2fb1949e3c7580594bc4cf709ade4904e", func := "forme/formelaw16.ContainTexts", spec := "containTexts", unfollowed := true, recurses := true, loops := true, apart := false }
def ContainTextsSaid : Prop := containTextsRow.holds Tryz.pinned (OpenSpec.ofChange containTextsSpec)

/-- ITS FALSE NEIGHBOUR: 'it returns false'. Refute it at one input. -/
def containTextsWrong : ChangeSpec := { name := "containTexts", fn := fun _ => fun
  | [d1, d2, d3, d4, d5] => { results := [.lit (.bool false)], args := [d1, d2, d3, d4, d5] }
  | _ => none }
def ContainTextsWrongFalsely : Prop := containTextsRow.holds Tryz.pinned (OpenSpec.ofChange containTextsWrong)

/- THE SECOND FORM. 'bulk': how many values and letters a reading holds, each counted each time it is reached (what is shared counts as often as it is met; a slice's spare places count too). A statement '..UptoSaid' is the law's where the arguments, and the package variables that the reading takes, are together of bulk at most 1048576: NARROWER than '..Said'. Prove '..Said' where nothing that the law and all that it calls make is longer than what came in: it says more and counts as full. Else prove '..UptoSaid'. A law counts once. -/
mutual
def uptoBulk {H : Type} : DataW H → Nat
  | .lit (.string bytes) => bytes.length + 1
  | .lit _ => 1
  | .nil => 1
  | .ptr d => uptoBulk d + 1
  | .slice elems spare => uptoBulkAll elems + uptoBulkAll spare + 1
  | .agg parts => uptoBulkAll parts + 1
  | .iface _ d => uptoBulk d + 1
  | .map entries => uptoBulkEntries entries + 1
  | .held _ => 1
def uptoBulkAll {H : Type} : List (DataW H) → Nat
  | [] => 0
  | d :: r => uptoBulk d + uptoBulkAll r
def uptoBulkEntries {H : Type} : List (Lit × DataW H) → Nat
  | [] => 0
  | x :: r => uptoBulkEntry x + uptoBulkEntries r
def uptoBulkEntry {H : Type} : Lit × DataW H → Nat
  | (.string bytes, d) => bytes.length + uptoBulk d + 1
  | (_, d) => uptoBulk d + 1
 end
def uptoSmall : (H : Type) → List (DataW H) → Bool := fun _ ds => decide (uptoBulkAll ds ≤ 1048576)
def OpenSpec.upto (s : _root_.Go.ChangeSpec) : _root_.Go.OpenSpec := { _root_.Go.OpenSpec.ofChange s with cond := some uptoSmall }

/-- 'formelaw16.ContainMatchesReference', WHERE WHAT IT READS IS OF BULK AT MOST 1048576: true; the input reads as it did. -/
def containMatchesReferenceUptoRow : OpenClaim := { program := "ytinhjbnljbmbcaagreat", sum := "5b2095541120e777290ebacbfc782ce2fb1949e3c7580594bc4cf709ade4904e", func := "forme/formelaw16.ContainMatchesReference", spec := "containMatchesReference", unfollowed := true, recurses := true, loops := true, apart := false, narrowed := true }
def ContainMatchesReferenceUptoSaid : Prop := containMatchesReferenceUptoRow.holds Tryz.pinned (OpenSpec.upto containMatchesReferenceSpec)

/-- 'formelaw16.ContainStyles', WHERE WHAT IT READS IS OF BULK AT MOST 1048576: true; the input reads as it did. -/
def containStylesUptoRow : OpenClaim := { program := "ytinhjbnljbmbcaagreat", sum := "5b2095541120e777290ebacbfc782ce2fb1949e3c7580594bc4cf709ade4904e", func := "forme/formelaw16.ContainStyles", spec := "containStyles", unfollowed := true, recurses := true, loops := true, apart := false, narrowed := true }
def ContainStylesUptoSaid : Prop := containStylesUptoRow.holds Tryz.pinned (OpenSpec.upto containStylesSpec)

/-- 'formelaw16.ContainPaths', WHERE WHAT IT READS IS OF BULK AT MOST 1048576: true; the input reads as it did. -/
def containPathsUptoRow : OpenClaim := { program := "ytinhjbnljbmbcaagreat", sum := "5b2095541120e777290ebacbfc782ce2fb1949e3c7580594bc4cf709ade4904e", func := "forme/formelaw16.ContainPaths", spec := "containPaths", unfollowed := true, recurses := true, loops := true, apart := false, narrowed := true }
def ContainPathsUptoSaid : Prop := containPathsUptoRow.holds Tryz.pinned (OpenSpec.upto containPathsSpec)

/-- 'formelaw16.ContainWidths', WHERE WHAT IT READS IS OF BULK AT MOST 1048576: true; the input reads as it did. -/
def containWidthsUptoRow : OpenClaim := { program := "ytinhjbnljbmbcaagreat", sum := "5b2095541120e777290ebacbfc782ce2fb1949e3c7580594bc4cf709ade4904e", func := "forme/formelaw16.ContainWidths", spec := "containWidths", unfollowed := true, recurses := true, loops := true, apart := false, narrowed := true }
def ContainWidthsUptoSaid : Prop := containWidthsUptoRow.holds Tryz.pinned (OpenSpec.upto containWidthsSpec)

/-- 'formelaw16.ContainBoxes', WHERE WHAT IT READS IS OF BULK AT MOST 1048576: true; the input reads as it did. -/
def containBoxesUptoRow : OpenClaim := { program := "ytinhjbnljbmbcaagreat", sum := "5b2095541120e777290ebacbfc782ce2fb1949e3c7580594bc4cf709ade4904e", func := "forme/formelaw16.ContainBoxes", spec := "containBoxes", unfollowed := true, recurses := true, loops := true, apart := false, narrowed := true }
def ContainBoxesUptoSaid : Prop := containBoxesUptoRow.holds Tryz.pinned (OpenSpec.upto containBoxesSpec)

/-- 'formelaw16.ContainTexts', WHERE WHAT IT READS IS OF BULK AT MOST 1048576: true; the input reads as it did. -/
def containTextsUptoRow : OpenClaim := { program := "ytinhjbnljbmbcaagreat", sum := "5b2095541120e777290ebacbfc782ce2fb1949e3c7580594bc4cf709ade4904e", func := "forme/formelaw16.ContainTexts", spec := "containTexts", unfollowed := true, recurses := true, loops := true, apart := false, narrowed := true }
def ContainTextsUptoSaid : Prop := containTextsUptoRow.holds Tryz.pinned (OpenSpec.upto containTextsSpec)

end Rows
end Go.Proofs.YtinhjbnljbmbcaaGreat
