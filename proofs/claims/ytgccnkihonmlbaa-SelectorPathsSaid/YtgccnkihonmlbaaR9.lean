/- What is proved: for whatever nodes, selector and choice the law SelectorPaths returns true. The arguments read as they did. No conditions. -/
import Derived.Test.YtgccnkihonmlbaaTf
import Derived.Test.YtgccnkihonmlbaaFm
namespace Go.Proofs.Ytgccnkihonmlbaa
open Go Go.RowKit Go.ChangeShapes Go.WideShapes
set_option linter.unusedSimpArgs false
set_option linter.unusedVariables false
set_option linter.constructorNameAsVariable false

set_option maxRecDepth 100000 in
theorem args9 : ∀ Ds, ArgSh Try.prog 6 Try.f9.params.toList Ds → PCall Try.prog (.func 9) Ds (.bool true)
  | [a, b, c], ⟨h1, h2, h3, _⟩ => by
    obtain ⟨x0, rfl⟩ := argD_nodes h1
    obtain ⟨x1, rfl⟩ := argD_tests h2
    obtain ⟨x2, rfl⟩ := argD_int Try.underlying5 h3
    exact law9_w x0 x1 x2
  | [], h => h.elim
  | [_], ⟨_, h⟩ => h.elim
  | [_, _], ⟨_, _, h⟩ => h.elim
  | _ :: _ :: _ :: _ :: _, ⟨_, _, _, h⟩ => h.elim

set_option maxRecDepth 100000 in
theorem law9_lifted (os : Os) (started : os.Started) (H : Type) (enc : TypeId × Value → H) :
    ReturnsInHanded {} Try.checked os 9 .any (Rows.selectorPathsSpec.pre6 enc Try.prog Try.f9 Rows.selectorPathsRow.domain false) (Rows.selectorPathsSpec.post enc Try.prog Try.f9 false true false false) := by
  refine returnsInHanded_of_change (C := Try.checked) own_ started (by kernel_rfl) Try.func9
    (ChangeSpec.witness6 (enc := enc) (C := Try.checked) false ⟨#[], #[.slice none 0 0, .slice none 0 0, .int .u8 0], []⟩ 8 (by kernel_rfl) (by kernel_rfl) (by kernel_rfl) (by kernel_rfl)) ?_
  intro W base args ds gs before hval hW _ _
  exact law_row (P := Try.prog) (s := Rows.selectorPathsSpec) 6 laidOut_ Try.func9 (by kernel_rfl) (by kernel_rfl) rfl (by kernel_rfl) Try.underlying4 (by kernel_rfl) (fun ds hds => by
    match ds, hds with
    | [a, b, c], _ => rfl) args9 hval hW

theorem SelectorPaths_holds : Rows.SelectorPathsSaid :=
  OpenClaim.holds_of_wide 9 Try.f9 rfl rfl rfl rfl rfl rfl rfl ⟨rfl, rfl, rfl, rfl, rfl⟩ rfl rfl rfl rfl rfl (by kernel_rfl) Try.func9 (by kernel_rfl)
    (of_decide_eq_true (by kernel_rfl)) (by unfold Func.isWrapper; first | (rw [if_pos (by decide +kernel)]; kernel_rfl) | (rw [if_neg (by decide +kernel)]; exact ⟨rfl, rfl⟩))
    (fun os started H enc _ => law9_lifted os started H enc)
#print axioms SelectorPaths_holds

end Go.Proofs.Ytgccnkihonmlbaa
