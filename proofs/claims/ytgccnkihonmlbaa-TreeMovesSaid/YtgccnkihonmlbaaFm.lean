/- The arguments of the selector's and the tree's laws, as plain data. -/
import Derived.Test.YtgccnkihonmlbaaSa
import Derived.Test.YtgccnkihonmlbaaAm
import Derived.Test.YtgccnkihonmlbaaRows
namespace Go.Proofs.Ytgccnkihonmlbaa
open Go Go.RowKit Go.ChangeShapes Go.WideShapes
set_option linter.unusedSimpArgs false
set_option linter.unusedVariables false
set_option linter.constructorNameAsVariable false
set_option maxRecDepth 100000

theorem own_ : ownKnob Try.prog.godebug = none := by kernel_rfl
theorem laidOut_ : laidOutB Try.prog = true := by kernel_rfl

theorem sh_node {n : Nat} {ds : List D} (h : Sh Try.prog (n + 2) 38 ds) : ∃ x : Nd, ds = nrow x := by
  simp only [Sh, Try.underlying38, ShF, Try.underlying3, Try.underlying9] at h
  obtain ⟨_, _, rfl, ⟨a, rfl⟩, _, _, rfl, ⟨b, rfl⟩, _, _, rfl, ⟨c, rfl⟩, _, _, rfl, ⟨d, rfl⟩, _, _, rfl, ⟨e, rfl⟩, rfl⟩ := h
  exact ⟨⟨a, b, c, d, e⟩, rfl⟩
theorem sh_test {n : Nat} {ds : List D} (h : Sh Try.prog (n + 2) 40 ds) : ∃ x : Ts, ds = trow x := by
  simp only [Sh, Try.underlying40, ShF, Try.underlying3, Try.underlying4] at h
  obtain ⟨_, _, rfl, ⟨a, rfl⟩, _, _, rfl, ⟨b, rfl⟩, _, _, rfl, ⟨c, rfl⟩, _, _, rfl, ⟨d, rfl⟩, rfl⟩ := h
  exact ⟨⟨a, b, c, d⟩, rfl⟩
theorem cellsOf38 : Try.prog.cellsOf 38 = 5 := by kernel_rfl
theorem cellsOf40 : Try.prog.cellsOf 40 = 4 := by kernel_rfl
theorem argD_nodes {d : D} (h : ArgD Try.prog 6 22 d) : ∃ l : List Nd, d = .sl 5 (l.map nrow) .no := by
  simp only [ArgD, Try.underlying22, Sh, cellsOf38, List.cons.injEq, and_true] at h
  obtain ⟨rows, rfl, h⟩ := h
  obtain ⟨l, rfl⟩ := sh_rows (fun ds h => sh_node (n := 3) h) h
  exact ⟨l, rfl⟩
theorem argD_tests {d : D} (h : ArgD Try.prog 6 23 d) : ∃ l : List Ts, d = .sl 4 (l.map trow) .no := by
  simp only [ArgD, Try.underlying23, Sh, cellsOf40, List.cons.injEq, and_true] at h
  obtain ⟨rows, rfl, h⟩ := h
  obtain ⟨l, rfl⟩ := sh_rows (fun ds h => sh_test (n := 3) h) h
  exact ⟨l, rfl⟩
theorem argD_test {d : D} (h : ArgD Try.prog 6 40 d) : ∃ x : Ts, d = .ag (trow x) := by
  simp only [ArgD, Try.underlying40] at h
  obtain ⟨cs, rfl, h⟩ := h
  obtain ⟨x, rfl⟩ := sh_test (n := 4) h
  exact ⟨x, rfl⟩
theorem argD_node {d : D} (h : ArgD Try.prog 6 38 d) : ∃ x : Nd, d = .ag (nrow x) := by
  simp only [ArgD, Try.underlying38] at h
  obtain ⟨cs, rfl, h⟩ := h
  obtain ⟨x, rfl⟩ := sh_node (n := 4) h
  exact ⟨x, rfl⟩
theorem argD_int {t : TypeId} {k : IntKind} (ht : Try.prog.underlying t = some (.int k)) {d : D} (h : ArgD Try.prog 6 t d) : ∃ x, d = .int k x := by
  simp only [ArgD, ht, Sh, List.cons.injEq, and_true] at h; exact h
end Go.Proofs.Ytgccnkihonmlbaa
