/- What is proved: for whatever nodes and choice the law TreeRemoves returns true. The arguments read as they did. No conditions. -/
import Derived.Test.YtgccnkihonmlbaaTu
import Derived.Test.YtgccnkihonmlbaaFm
namespace Go.Proofs.Ytgccnkihonmlbaa
open Go Go.RowKit Go.ChangeShapes Go.WideShapes
set_option linter.unusedSimpArgs false
set_option linter.unusedVariables false
set_option linter.constructorNameAsVariable false

set_option maxRecDepth 100000 in
theorem args14 : ∀ Ds, ArgSh Try.prog 6 Try.f14.params.toList Ds → PCall Try.prog (.func 14) Ds (.bool true)
  | [a, b], ⟨h1, h2, _⟩ => by
    obtain ⟨x0, rfl⟩ := argD_nodes h1
    obtain ⟨x1, rfl⟩ := argD_int Try.underlying5 h2
    exact law14_w x0 x1
  | [], h => h.elim
  | [_], ⟨_, h⟩ => h.elim
  | _ :: _ :: _ :: _, ⟨_, _, h⟩ => h.elim

set_option maxRecDepth 100000 in
theorem law14_lifted (os : Os) (started : os.Started) (H : Type) (enc : TypeId × Value → H) :
    ReturnsInHanded {} Try.checked os 14 .any (Rows.treeRemovesSpec.pre6 enc Try.prog Try.f14 Rows.treeRemovesRow.domain false) (Rows.treeRemovesSpec.post enc Try.prog Try.f14 false true false false) := by
  refine returnsInHanded_of_change (C := Try.checked) own_ started (by kernel_rfl) Try.func14
    (ChangeSpec.witness6 (enc := enc) (C := Try.checked) false ⟨#[], #[.slice none 0 0, .int .u8 0], []⟩ 8 (by kernel_rfl) (by kernel_rfl) (by kernel_rfl) (by kernel_rfl)) ?_
  intro W base args ds gs before hval hW _ _
  exact law_row (P := Try.prog) (s := Rows.treeRemovesSpec) 6 laidOut_ Try.func14 (by kernel_rfl) (by kernel_rfl) rfl (by kernel_rfl) Try.underlying4 (by kernel_rfl) (fun ds hds => by
    match ds, hds with
    | [a, b], _ => rfl) args14 hval hW

theorem TreeRemoves_holds : Rows.TreeRemovesSaid :=
  OpenClaim.holds_of_wide 14 Try.f14 rfl rfl rfl rfl rfl rfl rfl ⟨rfl, rfl, rfl, rfl, rfl⟩ rfl rfl rfl rfl rfl (by kernel_rfl) Try.func14 (by kernel_rfl)
    (of_decide_eq_true (by kernel_rfl)) (by unfold Func.isWrapper; first | (rw [if_pos (by decide +kernel)]; kernel_rfl) | (rw [if_neg (by decide +kernel)]; exact ⟨rfl, rfl⟩))
    (fun os started H enc _ => law14_lifted os started H enc)
#print axioms TreeRemoves_holds

end Go.Proofs.Ytgccnkihonmlbaa
