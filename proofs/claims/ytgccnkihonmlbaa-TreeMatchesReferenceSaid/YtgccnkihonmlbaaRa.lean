/- What is proved: for whatever nodes, node and numbers the law TreeMatchesReference returns true. The arguments read as they did. No conditions. -/
import Derived.Test.YtgccnkihonmlbaaTq
import Derived.Test.YtgccnkihonmlbaaFm
namespace Go.Proofs.Ytgccnkihonmlbaa
open Go Go.RowKit Go.ChangeShapes Go.WideShapes
set_option linter.unusedSimpArgs false
set_option linter.unusedVariables false
set_option linter.constructorNameAsVariable false

set_option maxRecDepth 100000 in
theorem args10 : ∀ Ds, ArgSh Try.prog 6 Try.f10.params.toList Ds → PCall Try.prog (.func 10) Ds (.bool true)
  | [a, b, c, d, e], ⟨h1, h2, h3, h4, h5, _⟩ => by
    obtain ⟨x0, rfl⟩ := argD_nodes h1
    obtain ⟨x1, rfl⟩ := argD_node h2
    obtain ⟨x2, rfl⟩ := argD_int Try.underlying3 h3
    obtain ⟨x3, rfl⟩ := argD_int Try.underlying3 h4
    obtain ⟨x4, rfl⟩ := argD_int Try.underlying3 h5
    exact law10_w x0 x1 x2 x3 x4
  | [], h => h.elim
  | [_], ⟨_, h⟩ => h.elim
  | [_, _], ⟨_, _, h⟩ => h.elim
  | [_, _, _], ⟨_, _, _, h⟩ => h.elim
  | [_, _, _, _], ⟨_, _, _, _, h⟩ => h.elim
  | _ :: _ :: _ :: _ :: _ :: _ :: _, ⟨_, _, _, _, _, h⟩ => h.elim

set_option maxRecDepth 100000 in
theorem law10_lifted (os : Os) (started : os.Started) (H : Type) (enc : TypeId × Value → H) :
    ReturnsInHanded {} Try.checked os 10 .any (Rows.treeMatchesReferenceSpec.pre6 enc Try.prog Try.f10 Rows.treeMatchesReferenceRow.domain false) (Rows.treeMatchesReferenceSpec.post enc Try.prog Try.f10 false true false false) := by
  refine returnsInHanded_of_change (C := Try.checked) own_ started (by kernel_rfl) Try.func10
    (ChangeSpec.witness6 (enc := enc) (C := Try.checked) false ⟨#[], #[.slice none 0 0, .agg #[.int .i64 0, .int .i64 0, .int .i64 0, .int .i64 0, .string ⟨#[]⟩], .int .i64 0, .int .i64 0, .int .i64 0], []⟩ 8 (by kernel_rfl) (by kernel_rfl) (by kernel_rfl) (by kernel_rfl)) ?_
  intro W base args ds gs before hval hW _ _
  exact law_row (P := Try.prog) (s := Rows.treeMatchesReferenceSpec) 6 laidOut_ Try.func10 (by kernel_rfl) (by kernel_rfl) rfl (by kernel_rfl) Try.underlying4 (by kernel_rfl) (fun ds hds => by
    match ds, hds with
    | [a, b, c, d, e], _ => rfl) args10 hval hW

theorem TreeMatchesReference_holds : Rows.TreeMatchesReferenceSaid :=
  OpenClaim.holds_of_wide 10 Try.f10 rfl rfl rfl rfl rfl rfl rfl ⟨rfl, rfl, rfl, rfl, rfl⟩ rfl rfl rfl rfl rfl (by kernel_rfl) Try.func10 (by kernel_rfl)
    (of_decide_eq_true (by kernel_rfl)) (by unfold Func.isWrapper; first | (rw [if_pos (by decide +kernel)]; kernel_rfl) | (rw [if_neg (by decide +kernel)]; exact ⟨rfl, rfl⟩))
    (fun os started H enc _ => law10_lifted os started H enc)
#print axioms TreeMatchesReference_holds

end Go.Proofs.Ytgccnkihonmlbaa
