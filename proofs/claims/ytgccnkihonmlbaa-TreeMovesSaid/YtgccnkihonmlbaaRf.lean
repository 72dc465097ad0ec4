/- What is proved: for whatever nodes and numbers the law TreeMoves returns true. The arguments read as they did. No conditions. -/
import Derived.Test.YtgccnkihonmlbaaUb
import Derived.Test.YtgccnkihonmlbaaFm
namespace Go.Proofs.Ytgccnkihonmlbaa
open Go Go.RowKit Go.ChangeShapes Go.WideShapes
set_option linter.unusedSimpArgs false
set_option linter.unusedVariables false
set_option linter.constructorNameAsVariable false

set_option maxRecDepth 100000 in
theorem args15 : ∀ Ds, ArgSh Try.prog 6 Try.f15.params.toList Ds → PCall Try.prog (.func 15) Ds (.bool true)
  | [a, b, c, d], ⟨h1, h2, h3, h4, _⟩ => by
    obtain ⟨x0, rfl⟩ := argD_nodes h1
    obtain ⟨x1, rfl⟩ := argD_int Try.underlying3 h2
    obtain ⟨x2, rfl⟩ := argD_int Try.underlying3 h3
    obtain ⟨x3, rfl⟩ := argD_int Try.underlying3 h4
    exact law15_w x0 x1 x2 x3
  | [], h => h.elim
  | [_], ⟨_, h⟩ => h.elim
  | [_, _], ⟨_, _, h⟩ => h.elim
  | [_, _, _], ⟨_, _, _, h⟩ => h.elim
  | _ :: _ :: _ :: _ :: _ :: _, ⟨_, _, _, _, h⟩ => h.elim

set_option maxRecDepth 100000 in
theorem law15_lifted (os : Os) (started : os.Started) (H : Type) (enc : TypeId × Value → H) :
    ReturnsInHanded {} Try.checked os 15 .any (Rows.treeMovesSpec.pre6 enc Try.prog Try.f15 Rows.treeMovesRow.domain false) (Rows.treeMovesSpec.post enc Try.prog Try.f15 false true false false) := by
  refine returnsInHanded_of_change (C := Try.checked) own_ started (by kernel_rfl) Try.func15
    (ChangeSpec.witness6 (enc := enc) (C := Try.checked) false ⟨#[], #[.slice none 0 0, .int .i64 0, .int .i64 0, .int .i64 0], []⟩ 8 (by kernel_rfl) (by kernel_rfl) (by kernel_rfl) (by kernel_rfl)) ?_
  intro W base args ds gs before hval hW _ _
  exact law_row (P := Try.prog) (s := Rows.treeMovesSpec) 6 laidOut_ Try.func15 (by kernel_rfl) (by kernel_rfl) rfl (by kernel_rfl) Try.underlying4 (by kernel_rfl) (fun ds hds => by
    match ds, hds with
    | [a, b, c, d], _ => rfl) args15 hval hW

theorem TreeMoves_holds : Rows.TreeMovesSaid :=
  OpenClaim.holds_of_wide 15 Try.f15 rfl rfl rfl rfl rfl rfl rfl ⟨rfl, rfl, rfl, rfl, rfl⟩ rfl rfl rfl rfl rfl (by kernel_rfl) Try.func15 (by kernel_rfl)
    (of_decide_eq_true (by kernel_rfl)) (by unfold Func.isWrapper; first | (rw [if_pos (by decide +kernel)]; kernel_rfl) | (rw [if_neg (by decide +kernel)]; exact ⟨rfl, rfl⟩))
    (fun os started H enc _ => law15_lifted os started H enc)
#print axioms TreeMoves_holds

end Go.Proofs.Ytgccnkihonmlbaa
