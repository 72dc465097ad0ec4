/- What is proved: for whatever nodes, node and number the law TreeInserts returns true. The arguments read as they did. No conditions. -/
import Derived.Test.YtgccnkihonmlbaaUa
import Derived.Test.YtgccnkihonmlbaaFm
namespace Go.Proofs.Ytgccnkihonmlbaa
open Go Go.RowKit Go.ChangeShapes Go.WideShapes
set_option linter.unusedSimpArgs false
set_option linter.unusedVariables false
set_option linter.constructorNameAsVariable false

set_option maxRecDepth 100000 in
theorem args13 : ∀ Ds, ArgSh Try.prog 6 Try.f13.params.toList Ds → PCall Try.prog (.func 13) Ds (.bool true)
  | [a, b, c], ⟨h1, h2, h3, _⟩ => by
    obtain ⟨x0, rfl⟩ := argD_nodes h1
    obtain ⟨x1, rfl⟩ := argD_node h2
    obtain ⟨x2, rfl⟩ := argD_int Try.underlying3 h3
    exact law13_w x0 x1 x2
  | [], h => h.elim
  | [_], ⟨_, h⟩ => h.elim
  | [_, _], ⟨_, _, h⟩ => h.elim
  | _ :: _ :: _ :: _ :: _, ⟨_, _, _, h⟩ => h.elim

set_option maxRecDepth 100000 in
theorem law13_lifted (os : Os) (started : os.Started) (H : Type) (enc : TypeId × Value → H) :
    ReturnsInHanded {} Try.checked os 13 .any (Rows.treeInsertsSpec.pre6 enc Try.prog Try.f13 Rows.treeInsertsRow.domain false) (Rows.treeInsertsSpec.post enc Try.prog Try.f13 false true false false) := by
  refine returnsInHanded_of_change (C := Try.checked) own_ started (by kernel_rfl) Try.func13
    (ChangeSpec.witness6 (enc := enc) (C := Try.checked) false ⟨#[], #[.slice none 0 0, .agg #[.int .i64 0, .int .i64 0, .int .i64 0, .int .i64 0, .string ⟨#[]⟩], .int .i64 0], []⟩ 8 (by kernel_rfl) (by kernel_rfl) (by kernel_rfl) (by kernel_rfl)) ?_
  intro W base args ds gs before hval hW _ _
  exact law_row (P := Try.prog) (s := Rows.treeInsertsSpec) 6 laidOut_ Try.func13 (by kernel_rfl) (by kernel_rfl) rfl (by kernel_rfl) Try.underlying4 (by kernel_rfl) (fun ds hds => by
    match ds, hds with
    | [a, b, c], _ => rfl) args13 hval hW

theorem TreeInserts_holds : Rows.TreeInsertsSaid :=
  OpenClaim.holds_of_wide 13 Try.f13 rfl rfl rfl rfl rfl rfl rfl ⟨rfl, rfl, rfl, rfl, rfl⟩ rfl rfl rfl rfl rfl (by kernel_rfl) Try.func13 (by kernel_rfl)
    (of_decide_eq_true (by kernel_rfl)) (by unfold Func.isWrapper; first | (rw [if_pos (by decide +kernel)]; kernel_rfl) | (rw [if_neg (by decide +kernel)]; exact ⟨rfl, rfl⟩))
    (fun os started H enc _ => law13_lifted os started H enc)
#print axioms TreeInserts_holds

end Go.Proofs.Ytgccnkihonmlbaa
