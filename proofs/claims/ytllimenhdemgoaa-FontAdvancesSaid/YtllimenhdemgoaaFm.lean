/- The font's arguments, as plain data. -/
import Derived.Test.YtllimenhdemgoaaFa
import Derived.Test.YtllimenhdemgoaaAm
import Derived.Test.YtllimenhdemgoaaRows
namespace Go.Proofs.Ytllimenhdemgoaa
open Go Go.RowKit Go.ChangeShapes Go.WideShapes
set_option linter.unusedSimpArgs false
set_option linter.unusedVariables false

theorem own_ : ownKnob Try.prog.godebug = none := by kernel_rfl
theorem laidOut_ : laidOutB Try.prog = true := by kernel_rfl

theorem sh_int {n : Nat} {t : TypeId} {k : IntKind} {ds : List D} (ht : Try.prog.underlying t = some (.int k)) (h : Sh Try.prog (n + 1) t ds) : ∃ x, ds = [.int k x] := by
  simp only [Sh, ht] at h; exact h
theorem sh_glyph {n : Nat} {ds : List D} (h : Sh Try.prog (n + 2) 46 ds) : ∃ g : Gl, ds = grow g := by
  simp only [Sh, Try.underlying46, ShF, Try.underlying5, Try.underlying3] at h
  obtain ⟨_, _, rfl, ⟨x, rfl⟩, _, _, rfl, ⟨y, rfl⟩, rfl⟩ := h
  exact ⟨(x, y), rfl⟩
theorem sh_kern {n : Nat} {ds : List D} (h : Sh Try.prog (n + 2) 48 ds) : ∃ g : Kn, ds = krow g := by
  simp only [Sh, Try.underlying48, ShF, Try.underlying5, Try.underlying3] at h
  obtain ⟨_, _, rfl, ⟨x, rfl⟩, _, _, rfl, ⟨y, rfl⟩, _, _, rfl, ⟨z, rfl⟩, rfl⟩ := h
  exact ⟨(x, y, z), rfl⟩
theorem cellsOf46 : Try.prog.cellsOf 46 = 2 := by kernel_rfl
theorem cellsOf48 : Try.prog.cellsOf 48 = 3 := by kernel_rfl
theorem sh_font {n : Nat} {ds : List D} (h : Sh Try.prog (n + 4) 25 ds) : ∃ (gs : List Gl) (ks : List Kn), ds = [.sl 2 (gs.map grow) .no, .sl 3 (ks.map krow) .no] := by
  simp only [Sh, Try.underlying25, ShF, Try.underlying22, Try.underlying23, cellsOf46, cellsOf48] at h
  obtain ⟨_, _, rfl, ⟨r1, rfl, h1⟩, _, _, rfl, ⟨r2, rfl, h2⟩, rfl⟩ := h
  obtain ⟨gs, rfl⟩ := sh_rows (fun ds h => sh_glyph (n := n) h) h1
  obtain ⟨ks, rfl⟩ := sh_rows (fun ds h => sh_kern (n := n) h) h2
  exact ⟨gs, ks, rfl⟩

theorem argD_font {d : D} (h : ArgD Try.prog 6 25 d) : ∃ (gs : List Gl) (ks : List Kn), d = .ag [.sl 2 (gs.map grow) .no, .sl 3 (ks.map krow) .no] := by
  simp only [ArgD, Try.underlying25] at h
  obtain ⟨cs, rfl, h⟩ := h
  obtain ⟨gs, ks, rfl⟩ := sh_font (n := 2) h
  exact ⟨gs, ks, rfl⟩
theorem argD_str {d : D} (h : ArgD Try.prog 6 9 d) : ∃ s, d = .str s := by
  simp only [ArgD, Try.underlying9, Sh, List.cons.injEq, and_true] at h; exact h
theorem argD_int {t : TypeId} {k : IntKind} (ht : Try.prog.underlying t = some (.int k)) {d : D} (h : ArgD Try.prog 6 t d) : ∃ x, d = .int k x := by
  simp only [ArgD, ht, Sh, List.cons.injEq, and_true] at h; exact h
theorem argD_bool {d : D} (h : ArgD Try.prog 6 4 d) : ∃ x, d = .bool x := by
  simp only [ArgD, Try.underlying4, Sh, List.cons.injEq, and_true] at h; exact h

end Go.Proofs.Ytllimenhdemgoaa
