/- What is proved: for whatever nodes, selector and choice the law SelectorLooser returns true. The arguments read as they did. No conditions. -/
import Derived.Test.YtgccnkihonmlbaaSp
import Derived.Test.YtgccnkihonmlbaaFm
namespace Go.Proofs.Ytgccnkihonmlbaa
open Go Go.RowKit Go.ChangeShapes Go.WideShapes
set_option linter.unusedSimpArgs false
set_option linter.unusedVariables false
set_option linter.constructorNameAsVariable false

set_option maxRecDepth 100000 in
theorem args5 : ∀ Ds, ArgSh Try.prog 6 Try.f5.params.toList Ds → PCall Try.prog (.func 5) Ds (.bool true)
  | [a, b, c, d], ⟨h1, h2, h3, h4, _⟩ => by
    obtain ⟨x0, rfl⟩ := argD_nodes h1
    obtain ⟨x1, rfl⟩ := argD_tests h2
    obtain ⟨x2, rfl⟩ := argD_int Try.underlying5 h3
    obtain ⟨x3, rfl⟩ := argD_int Try.underlying5 h4
    exact law5_w x0 x1 x2 x3
  | [], h => h.elim
  | [_], ⟨_, h⟩ => h.elim
  | [_, _], ⟨_, _, h⟩ => h.elim
  | [_, _, _], ⟨_, _, _, h⟩ => h.elim
  | _ :: _ :: _ :: _ :: _ :: _, ⟨_, _, _, _, h⟩ => h.elim

set_option maxRecDepth 100000 in
theorem law5_lifted (os : Os) (started : os.Started) (H : Type) (enc : TypeId × Value → H) :
    ReturnsInHanded {} Try.checked os 5 .any (Rows.selectorLooserSpec.pre6 enc Try.prog Try.f5 Rows.selectorLooserRow.domain false) (Rows.selectorLooserSpec.post enc Try.prog Try.f5 false true false false) := by
  refine returnsInHanded_of_change (C := Try.checked) own_ started (by kernel_rfl) Try.func5
    (ChangeSpec.witness6 (enc := enc) (C := Try.checked) false ⟨#[], #[.slice none 0 0, .slice none 0 0, .int .u8 0, .int .u8 0], []⟩ 8 (by kernel_rfl) (by kernel_rfl) (by kernel_rfl) (by kernel_rfl)) ?_
  intro W base args ds gs before hval hW _ _
  exact law_row (P := Try.prog) (s := Rows.selectorLooserSpec) 6 laidOut_ Try.func5 (by kernel_rfl) (by kernel_rfl) rfl (by kernel_rfl) Try.underlying4 (by kernel_rfl) (fun ds hds => by
    match ds, hds with
    | [a, b, c, d], _ => rfl) args5 hval hW

theorem SelectorLooser_holds : Rows.SelectorLooserSaid :=
  OpenClaim.holds_of_wide 5 Try.f5 rfl rfl rfl rfl rfl rfl rfl ⟨rfl, rfl, rfl, rfl, rfl⟩ rfl rfl rfl rfl rfl (by kernel_rfl) Try.func5 (by kernel_rfl)
    (of_decide_eq_true (by kernel_rfl)) (by unfold Func.isWrapper; first | (rw [if_pos (by decide +kernel)]; kernel_rfl) | (rw [if_neg (by decide +kernel)]; exact ⟨rfl, rfl⟩))
    (fun os started H enc _ => law5_lifted os started H enc)
#print axioms SelectorLooser_holds

end Go.Proofs.Ytgccnkihonmlbaa
