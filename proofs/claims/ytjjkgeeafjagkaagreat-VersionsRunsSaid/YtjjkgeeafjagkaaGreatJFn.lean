/- The shape of a list of calls. -/
import Derived.Test.YtjjkgeeafjagkaaGreatJFm
import Derived.Test.YtjjkgeeafjagkaaGreatJDi
namespace Go.Proofs.YtjjkgeeafjagkaaGreat
open Go Go.RowKit Go.ChangeShapes Go.WideShapes
set_option linter.unusedSimpArgs false
set_option linter.unusedVariables false
set_option linter.constructorNameAsVariable false
set_option maxRecDepth 100000
theorem c47 : Tryz.prog.cellsOf 47 = 2 := by kernel_rfl
theorem sh_call (n : Nat) (ds : List D) (h : Sh Tryz.prog n 47 ds) : ∃ x : Int × Int, ds = crow x := by
  cases n with
  | zero => exact h.elim
  | succ n =>
    simp only [Sh, Tryz.underlying47, ShF] at h
    obtain ⟨_, _, rfl, ha, _, _, rfl, hb, rfl⟩ := h
    obtain ⟨a, rfl⟩ := sh_int Tryz.underlying5 ha
    obtain ⟨b, rfl⟩ := sh_int Tryz.underlying5 hb
    exact ⟨(a, b), rfl⟩
theorem argD_calls {n : Nat} {d : D} (h : ArgD Tryz.prog n 43 d) : ∃ l : List (Int × Int), d = .sl 2 (l.map crow) .no := by
  simp only [ArgD, Tryz.underlying43] at h
  obtain ⟨l, e⟩ := sh_list Tryz.underlying43 c47 sh_call h
  exact ⟨l, by simpa using e⟩
end Go.Proofs.YtjjkgeeafjagkaaGreat
