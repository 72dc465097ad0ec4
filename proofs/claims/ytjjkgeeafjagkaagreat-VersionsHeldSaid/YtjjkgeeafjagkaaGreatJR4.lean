/- What is proved: for whatever versions, place and calls the law VersionsHeld returns true. The arguments read as they did. No conditions. -/
import Derived.Test.YtjjkgeeafjagkaaGreatJLu
import Derived.Test.YtjjkgeeafjagkaaGreatJFn
namespace Go.Proofs.YtjjkgeeafjagkaaGreat
open Go Go.RowKit Go.ChangeShapes Go.WideShapes
set_option linter.unusedSimpArgs false
set_option linter.unusedVariables false
set_option linter.constructorNameAsVariable false

set_option maxRecDepth 100000 in
theorem args4 : ∀ Ds, ArgShC Tryz.prog Tryz.f4.params.toList Ds → PCall Tryz.prog (.func 4) Ds (.bool true)
  | [a, b, c], ⟨h1, h2, h3, _⟩ => by
    obtain ⟨n0, h1⟩ := h1
    obtain ⟨x0, rfl⟩ := argD_vers h1
    obtain ⟨n1, h2⟩ := h2
    obtain ⟨x1, rfl⟩ := argD_int Tryz.underlying5 h2
    obtain ⟨n2, h3⟩ := h3
    obtain ⟨x2, rfl⟩ := argD_calls h3
    exact law4_w x0 .no x1 x2 .no
  | [], h => h.elim
  | [_], ⟨_, h⟩ => h.elim
  | [_, _], ⟨_, _, h⟩ => h.elim
  | _ :: _ :: _ :: _ :: _, ⟨_, _, _, h⟩ => h.elim

set_option maxRecDepth 100000 in
theorem law4_lifted (os : Os) (started : os.Started) (H : Type) (enc : TypeId × Value → H) :
    ReturnsInHanded {} Tryz.checked os 4 .any (Rows.versionsHeldSpec.pre6 enc Tryz.prog Tryz.f4 Rows.versionsHeldRow.domain false) (Rows.versionsHeldSpec.post enc Tryz.prog Tryz.f4 false true false false) := by
  refine returnsInHanded_of_change (C := Tryz.checked) own_ started (by kernel_rfl) Tryz.func4
    (ChangeSpec.witness6 (enc := enc) (C := Tryz.checked) false ⟨#[], #[.slice none 0 0, .int .u8 0, .slice none 0 0], []⟩ 8 (by kernel_rfl) (by kernel_rfl) (by kernel_rfl) (by kernel_rfl)) ?_
  intro W base args ds gs before hval hW _ _
  exact law_rowC (P := Tryz.prog) (s := Rows.versionsHeldSpec) [22, 28, 3, 45, 23, 24, 25, 26, 67, 96, 62, 65, 92, 93, 94, 126, 128, 109, 107, 105, 59, 60, 87, 89, 63, 9, 4, 5, 43, 47] (by kernel_rfl) laidOut_ Tryz.func4 (by kernel_rfl) (by kernel_rfl) rfl (by kernel_rfl) Tryz.underlying4 (by kernel_rfl) (fun ds hds => by
    match ds, hds with
    | [a, b, c], _ => rfl) args4 hval hW

theorem VersionsHeld_holds : Rows.VersionsHeldSaid :=
  OpenClaim.holds_of_wide 4 Tryz.f4 rfl rfl rfl rfl rfl rfl rfl ⟨rfl, rfl, rfl, rfl, rfl⟩ rfl rfl rfl rfl rfl (by kernel_rfl) Tryz.func4 (by kernel_rfl)
    (of_decide_eq_true (by kernel_rfl)) (by unfold Func.isWrapper; first | (rw [if_pos (by decide +kernel)]; kernel_rfl) | (rw [if_neg (by decide +kernel)]; exact ⟨rfl, rfl⟩))
    (fun os started H enc _ => law4_lifted os started H enc)
#print axioms VersionsHeld_holds

end Go.Proofs.YtjjkgeeafjagkaaGreat
