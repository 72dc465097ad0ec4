/-
  NARROWER THAN 'FOR EVERY INPUT', by the rows' own cells (each row's printed sentence says how): VersionsMatchesReference: loops · VersionsHeld: loops · VersionsNewest: loops · VersionsRuns: loops · VersionsLets: loops.
  DERIVED. THE GIVEN ROWS OF THIS SEAT. 5 by the template 'for every input the law returns true; each argument reads behind the call as it read before'; 0 by the template 'total and deterministic' (their statements: YtjjkgeeafjagkaaGreatTotals.lean).
  GIVEN WITH THE SEED: the statements are not yours to turn. If you find one false, say at which input.
  Laid BY PROGRAM, IN A SANDBOX (cutbox-rows.mjs): the forced cells as the released guide's own fill.sh prints them over the translation 9b54ab10f5b43a45… (all of the seat's roots in one cut). By AI agents, Wed Nov 11 2026. No macro, syntax, notation, axiom, sorry.
-/
import Derived.Test.YtjjkgeeafjagkaaGreatChecked
import GoSem.Claim
import GoSem.ClaimJoined
import GoSem.ClaimMapViews
import Derived.JoinedTies
import Derived.KernelRfl
namespace Go.Proofs.YtjjkgeeafjagkaaGreat
/- THE CELL 'sum', in the pinned program and in every row, IS THE sha256 OF THE DUMP (.gsa) THAT YtjjkgeeafjagkaaGreatProg.lean LOADS. Nothing in Lean hashes anything: it is a label: what it is worth is what the hold of that sum in a sandbox is worth. -/
noncomputable def Tryz.pinned : Pinned := { name := "ytjjkgeeafjagkaagreat", sum := "9b54ab10f5b43a4573c888be26c915e3305a71b957d73e3b937d62ffd05dabb9", checked := Tryz.checked }
namespace Rows
def none {H : Type} : Left H := { results := [], args := [] }

/-- 'formelaw37.VersionsMatchesReference': WHATEVER THE INPUT: true; the input reads as it did. -/
def versionsMatchesReferenceSpec : ChangeSpec := { name := "versionsMatchesReference", fn := fun _ => fun
  | [d1, d2, d3] => { results := [.lit (.bool true)], args := [d1, d2, d3] }
  | _ => none }
def versionsMatchesReferenceRow : OpenClaim := { program := "ytjjkgeeafjagkaagreat", sum := "9b54ab10f5b43a4573c888be26c915e3305a71b957d73e3b937d62ffd05dabb9", func := "forme/formelaw37.VersionsMatchesReference", spec := "versionsMatchesReference", unfollowed := true, recurses := true, loops := true, apart := false }
def VersionsMatchesReferenceSaid : Prop := versionsMatchesReferenceRow.holds Tryz.pinned (OpenSpec.ofChange versionsMatchesReferenceSpec)

/-- ITS FALSE NEIGHBOUR: 'it returns false'. Refute it at one input. -/
def versionsMatchesReferenceWrong : ChangeSpec := { name := "versionsMatchesReference", fn := fun _ => fun
  | [d1, d2, d3] => { results := [.lit (.bool false)], args := [d1, d2, d3] }
  | _ => none }
def VersionsMatchesReferenceWrongFalsely : Prop := versionsMatchesReferenceRow.holds Tryz.pinned (OpenSpec.ofChange versionsMatchesReferenceWrong)

/-- 'formelaw37.VersionsHeld': WHATEVER THE INPUT: true; the input reads as it did. -/
def versionsHeldSpec : ChangeSpec := { name := "versionsHeld", fn := fun _ => fun
  | [d1, d2, d3] => { results := [.lit (.bool true)], args := [d1, d2, d3] }
  | _ => none }
def versionsHeldRow : OpenClaim := { program := "ytjjkgeeafjagkaagreat", sum := "9b54ab10f5b43a4573c888be26c915e3305a71b957d73e3b937d62ffd05dabb9", func := "forme/formelaw37.VersionsHeld", spec := "versionsHeld", unfollowed := true, recurses := true, loops := true, apart := false }
def VersionsHeldSaid : Prop := versionsHeldRow.holds Tryz.pinned (OpenSpec.ofChange versionsHeldSpec)

/-- ITS FALSE NEIGHBOUR: 'it returns false'. Refute it at one input. -/
def versionsHeldWrong : ChangeSpec := { name := "versionsHeld", fn := fun _ => fun
  | [d1, d2, d3] => { results := [.lit (.bool false)], args := [d1, d2, d3] }
  | _ => none }
def VersionsHeldWrongFalsely : Prop := versionsHeldRow.holds Tryz.pinned (OpenSpec.ofChange versionsHeldWrong)

/-- 'formelaw37.VersionsNewest': WHATEVER THE INPUT: true; the input reads as it did. -/
def versionsNewestSpec : ChangeSpec := { name := "versionsNewest", fn := fun _ => fun
  | [d1, d2] => { results := [.lit (.bool true)], args := [d1, d2] }
  | _ => none }
def versionsNewestRow : OpenClaim := { program := "ytjjkgeeafjagkaagreat", sum := "9b54ab10f5b43a4573c888be26c915e3305a71b957d73e3b937d62ffd05dabb9", func := "forme/formelaw37.VersionsNewest", spec := "versionsNewest", unfollowed := true, recurses := true, loops := true, apart := false }
def VersionsNewestSaid : Prop := versionsNewestRow.holds Tryz.pinned (OpenSpec.ofChange versionsNewestSpec)

/-- ITS FALSE NEIGHBOUR: 'it returns false'. Refute it at one input. -/
def versionsNewestWrong : ChangeSpec := { name := "versionsNewest", fn := fun _ => fun
  | [d1, d2] => { results := [.lit (.bool false)], args := [d1, d2] }
  | _ => none }
def VersionsNewestWrongFalsely : Prop := versionsNewestRow.holds Tryz.pinned (OpenSpec.ofChange versionsNewestWrong)

/-- 'formelaw37.VersionsRuns': WHATEVER THE INPUT: true; the input reads as it did. -/
def versionsRunsSpec : ChangeSpec := { name := "versionsRuns", fn := fun _ => fun
  | [d1, d2] => { results := [.lit (.bool true)], args := [d1, d2] }
  | _ => none }
def versionsRunsRow : OpenClaim := { program := "ytjjkgeeafjagkaagreat", sum := "9b54ab10f5b43a4573c888be26c915e3305a71b957d73e3b937d62ffd05dabb9", func := "forme/formelaw37.VersionsRuns", spec := "versionsRuns", unfollowed := true, recurses := true, loops := true, apart := false }
def VersionsRunsSaid : Prop := versionsRunsRow.holds Tryz.pinned (OpenSpec.ofChange versionsRunsSpec)

/-- ITS FALSE NEIGHBOUR: 'it returns false'. Refute it at one input. -/
def versionsRunsWrong : ChangeSpec := { name := "versionsRuns", fn := fun _ => fun
  | [d1, d2] => { results := [.lit (.bool false)], args := [d1, d2] }
  | _ => none }
def VersionsRunsWrongFalsely : Prop := versionsRunsRow.holds Tryz.pinned (OpenSpec.ofChange versionsRunsWrong)

/-- 'formelaw37.VersionsLets': WHATEVER THE INPUT: true; the input reads as it did. -/
def versionsLetsSpec : ChangeSpec := { name := "versionsLets", fn := fun _ => fun
  | [d1, d2] => { results := [.lit (.bool true)], args := [d1, d2] }
  | _ => none }
def versionsLetsRow : OpenClaim := { program := "ytjjkgeeafjagkaagreat", sum := "9b54ab10f5b43a4573c888be26c915e3305a71b957d73e3b937d62ffd05dabb9", func := "forme/formelaw37.VersionsLets", spec := "versionsLets", unfollowed := true, recurses := true, loops := true, apart := false }
def VersionsLetsSaid : Prop := versionsLetsRow.holds Tryz.pinned (OpenSpec.ofChange versionsLetsSpec)

/-- ITS FALSE NEIGHBOUR: 'it returns false'. Refute it at one input. -/
def versionsLetsWrong : ChangeSpec := { name := "versionsLets", fn := fun _ => fun
  | [d1, d2] => { results := [.lit (.bool false)], args := [d1, d2] }
  | _ => none }
def VersionsLetsWrongFalsely : Prop := versionsLetsRow.holds Tryz.pinned (OpenSpec.ofChange versionsLetsWrong)

/- THE SECOND FORM. 'bulk': how many values and letters a reading holds, each counted each time it is reached (what is shared counts as often as it is met; a slice's spare places count too). A statement '..UptoSaid' is the law's where the arguments, and the package variables that the reading takes, are together of bulk at most 1048576: NARROWER than '..Said'. Prove '..Said' where nothing that the law and all that it calls make is longer than what came in: it says more and counts as full. Else prove '..UptoSaid'. A law counts once. -/
mutual
def uptoBulk {H : Type} : DataW H → Nat
  | .lit (.string bytes) => bytes.length + 1
  | .lit _ => 1
  | .nil => 1
  | .ptr d => uptoBulk d + 1
  | .slice elems spare => uptoBulkAll elems + uptoBulkAll spare + 1
  | .agg parts => uptoBulkAll parts + 1
  | .iface _ d => uptoBulk d + 1
  | .map entries => uptoBulkEntries entries + 1
  | .held _ => 1
def uptoBulkAll {H : Type} : List (DataW H) → Nat
  | [] => 0
  | d :: r => uptoBulk d + uptoBulkAll r
def uptoBulkEntries {H : Type} : List (Lit × DataW H) → Nat
  | [] => 0
  | x :: r => uptoBulkEntry x + uptoBulkEntries r
def uptoBulkEntry {H : Type} : Lit × DataW H → Nat
  | (.string bytes, d) => bytes.length + uptoBulk d + 1
  | (_, d) => uptoBulk d + 1
 end
def uptoSmall : (H : Type) → List (DataW H) → Bool := fun _ ds => decide (uptoBulkAll ds ≤ 1048576)
def OpenSpec.upto (s : _root_.Go.ChangeSpec) : _root_.Go.OpenSpec := { _root_.Go.OpenSpec.ofChange s with cond := some uptoSmall }

/-- 'formelaw37.VersionsMatchesReference', WHERE WHAT IT READS IS OF BULK AT MOST 1048576: true; the input reads as it did. -/
def versionsMatchesReferenceUptoRow : OpenClaim := { program := "ytjjkgeeafjagkaagreat", sum := "9b54ab10f5b43a4573c888be26c915e3305a71b957d73e3b937d62ffd05dabb9", func := "forme/formelaw37.VersionsMatchesReference", spec := "versionsMatchesReference", unfollowed := true, recurses := true, loops := true, apart := false, narrowed := true }
def VersionsMatchesReferenceUptoSaid : Prop := versionsMatchesReferenceUptoRow.holds Tryz.pinned (OpenSpec.upto versionsMatchesReferenceSpec)

/-- 'formelaw37.VersionsHeld', WHERE WHAT IT READS IS OF BULK AT MOST 1048576: true; the input reads as it did. -/
def versionsHeldUptoRow : OpenClaim := { program := "ytjjkgeeafjagkaagreat", sum := "9b54ab10f5b43a4573c888be26c915e3305a71b957d73e3b937d62ffd05dabb9", func := "forme/formelaw37.VersionsHeld", spec := "versionsHeld", unfollowed := true, recurses := true, loops := true, apart := false, narrowed := true }
def VersionsHeldUptoSaid : Prop := versionsHeldUptoRow.holds Tryz.pinned (OpenSpec.upto versionsHeldSpec)

/-- 'formelaw37.VersionsNewest', WHERE WHAT IT READS IS OF BULK AT MOST 1048576: true; the input reads as it did. -/
def versionsNewestUptoRow : OpenClaim := { program := "ytjjkgeeafjagkaagreat", sum := "9b54ab10f5b43a4573c888be26c915e3305a71b957d73e3b937d62ffd05dabb9", func := "forme/formelaw37.VersionsNewest", spec := "versionsNewest", unfollowed := true, recurses := true, loops := true, apart := false, narrowed := true }
def VersionsNewestUptoSaid : Prop := versionsNewestUptoRow.holds Tryz.pinned (OpenSpec.upto versionsNewestSpec)

/-- 'formelaw37.VersionsRuns', WHERE WHAT IT READS IS OF BULK AT MOST 1048576: true; the input reads as it did. -/
def versionsRunsUptoRow : OpenClaim := { program := "ytjjkgeeafjagkaagreat", sum := "9b54ab10f5b43a4573c888be26c915e3305a71b957d73e3b937d62ffd05dabb9", func := "forme/formelaw37.VersionsRuns", spec := "versionsRuns", unfollowed := true, recurses := true, loops := true, apart := false, narrowed := true }
def VersionsRunsUptoSaid : Prop := versionsRunsUptoRow.holds Tryz.pinned (OpenSpec.upto versionsRunsSpec)

/-- 'formelaw37.VersionsLets', WHERE WHAT IT READS IS OF BULK AT MOST 1048576: true; the input reads as it did. -/
def versionsLetsUptoRow : OpenClaim := { program := "ytjjkgeeafjagkaagreat", sum := "9b54ab10f5b43a4573c888be26c915e3305a71b957d73e3b937d62ffd05dabb9", func := "forme/formelaw37.VersionsLets", spec := "versionsLets", unfollowed := true, recurses := true, loops := true, apart := false, narrowed := true }
def VersionsLetsUptoSaid : Prop := versionsLetsUptoRow.holds Tryz.pinned (OpenSpec.upto versionsLetsSpec)

end Rows
end Go.Proofs.YtjjkgeeafjagkaaGreat
