/- What is proved: for whatever font, text and scales the law FontScales returns true. The arguments read as they did. No conditions. -/
import Derived.Test.YtllimenhdemgoaaFp
import Derived.Test.YtllimenhdemgoaaFm
namespace Go.Proofs.Ytllimenhdemgoaa
open Go Go.RowKit Go.ChangeShapes Go.WideShapes
set_option linter.unusedSimpArgs false
set_option linter.unusedVariables false

theorem args6 : ∀ Ds, ArgSh Try.prog 6 Try.f6.params.toList Ds → PCall Try.prog (.func 6) Ds (.bool true)
  | [a, b, c, d], ⟨h1, h2, h3, h4, _⟩ => by
    obtain ⟨gs, ks, rfl⟩ := argD_font h1
    obtain ⟨x1, rfl⟩ := argD_str h2
    obtain ⟨x2, rfl⟩ := argD_int Try.underlying41 h3
    obtain ⟨x3, rfl⟩ := argD_int Try.underlying41 h4
    exact law6_w gs ks _ _ x1 x2 x3
  | [], h => h.elim
  | [_], ⟨_, h⟩ => h.elim
  | [_, _], ⟨_, _, h⟩ => h.elim
  | [_, _, _], ⟨_, _, _, h⟩ => h.elim
  | _ :: _ :: _ :: _ :: _ :: _, ⟨_, _, _, _, h⟩ => h.elim

set_option maxRecDepth 100000 in
theorem law6_lifted (os : Os) (started : os.Started) (H : Type) (enc : TypeId × Value → H) :
    ReturnsInHanded {} Try.checked os 6 .any (Rows.fontScalesSpec.pre6 enc Try.prog Try.f6 Rows.fontScalesRow.domain false) (Rows.fontScalesSpec.post enc Try.prog Try.f6 false true false false) := by
  refine returnsInHanded_of_change (C := Try.checked) own_ started (by kernel_rfl) Try.func6
    (ChangeSpec.witness6 (enc := enc) (C := Try.checked) false ⟨#[], #[.agg #[.slice none 0 0, .slice none 0 0], .string ⟨#[]⟩, .int .u16 0, .int .u16 0], []⟩ 8 (by kernel_rfl) (by kernel_rfl) (by kernel_rfl) (by kernel_rfl)) ?_
  intro W base args ds gs before hval hW _ _
  exact law_row (P := Try.prog) (s := Rows.fontScalesSpec) 6 laidOut_ Try.func6 (by kernel_rfl) (by kernel_rfl) rfl (by kernel_rfl) Try.underlying4 (by kernel_rfl) (fun ds hds => by
    match ds, hds with
    | [a, b, c, d], _ => rfl) args6 hval hW

theorem FontScales_holds : Rows.FontScalesSaid :=
  OpenClaim.holds_of_wide 6 Try.f6 rfl rfl rfl rfl rfl rfl rfl ⟨rfl, rfl, rfl, rfl, rfl⟩ rfl rfl rfl rfl rfl (by kernel_rfl) Try.func6 (by kernel_rfl)
    (of_decide_eq_true (by kernel_rfl)) (by unfold Func.isWrapper; first | (rw [if_pos (by decide +kernel)]; kernel_rfl) | (rw [if_neg (by decide +kernel)]; exact ⟨rfl, rfl⟩))
    (fun os started H enc _ => law6_lifted os started H enc)
#print axioms FontScales_holds

end Go.Proofs.Ytllimenhdemgoaa
