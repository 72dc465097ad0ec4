/- What is proved: for whatever nodes the law TreeKids returns true. The arguments read as they did. No conditions. -/
import Derived.Test.YtgccnkihonmlbaaTr
import Derived.Test.YtgccnkihonmlbaaFm
namespace Go.Proofs.Ytgccnkihonmlbaa
open Go Go.RowKit Go.ChangeShapes Go.WideShapes
set_option linter.unusedSimpArgs false
set_option linter.unusedVariables false
set_option linter.constructorNameAsVariable false

set_option maxRecDepth 100000 in
theorem args11 : ∀ Ds, ArgSh Try.prog 6 Try.f11.params.toList Ds → PCall Try.prog (.func 11) Ds (.bool true)
  | [a], ⟨h1, _⟩ => by
    obtain ⟨x0, rfl⟩ := argD_nodes h1
    exact law11_w x0
  | [], h => h.elim
  | _ :: _ :: _, ⟨_, h⟩ => h.elim

set_option maxRecDepth 100000 in
theorem law11_lifted (os : Os) (started : os.Started) (H : Type) (enc : TypeId × Value → H) :
    ReturnsInHanded {} Try.checked os 11 .any (Rows.treeKidsSpec.pre6 enc Try.prog Try.f11 Rows.treeKidsRow.domain false) (Rows.treeKidsSpec.post enc Try.prog Try.f11 false true false false) := by
  refine returnsInHanded_of_change (C := Try.checked) own_ started (by kernel_rfl) Try.func11
    (ChangeSpec.witness6 (enc := enc) (C := Try.checked) false ⟨#[], #[.slice none 0 0], []⟩ 8 (by kernel_rfl) (by kernel_rfl) (by kernel_rfl) (by kernel_rfl)) ?_
  intro W base args ds gs before hval hW _ _
  exact law_row (P := Try.prog) (s := Rows.treeKidsSpec) 6 laidOut_ Try.func11 (by kernel_rfl) (by kernel_rfl) rfl (by kernel_rfl) Try.underlying4 (by kernel_rfl) (fun ds hds => by
    match ds, hds with
    | [a], _ => rfl) args11 hval hW

theorem TreeKids_holds : Rows.TreeKidsSaid :=
  OpenClaim.holds_of_wide 11 Try.f11 rfl rfl rfl rfl rfl rfl rfl ⟨rfl, rfl, rfl, rfl, rfl⟩ rfl rfl rfl rfl rfl (by kernel_rfl) Try.func11 (by kernel_rfl)
    (of_decide_eq_true (by kernel_rfl)) (by unfold Func.isWrapper; first | (rw [if_pos (by decide +kernel)]; kernel_rfl) | (rw [if_neg (by decide +kernel)]; exact ⟨rfl, rfl⟩))
    (fun os started H enc _ => law11_lifted os started H enc)
#print axioms TreeKids_holds

end Go.Proofs.Ytgccnkihonmlbaa
