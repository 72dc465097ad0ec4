/- What is proved: for whatever font, text, glyph, growth and byte the law FontAdvances returns true. The arguments read as they did. No conditions. -/
import Derived.Test.YtllimenhdemgoaaFt
import Derived.Test.YtllimenhdemgoaaFm
namespace Go.Proofs.Ytllimenhdemgoaa
open Go Go.RowKit Go.ChangeShapes Go.WideShapes
set_option linter.unusedSimpArgs false
set_option linter.unusedVariables false

theorem args7 : ∀ Ds, ArgSh Try.prog 6 Try.f7.params.toList Ds → PCall Try.prog (.func 7) Ds (.bool true)
  | [a, b, c, d, e], ⟨h1, h2, h3, h4, h5, _⟩ => by
    obtain ⟨gs, ks, rfl⟩ := argD_font h1
    obtain ⟨x1, rfl⟩ := argD_str h2
    obtain ⟨x2, rfl⟩ := argD_int Try.underlying5 h3
    obtain ⟨x3, rfl⟩ := argD_int Try.underlying41 h4
    obtain ⟨x4, rfl⟩ := argD_int Try.underlying5 h5
    exact law7_w gs ks x1 x2 x3 x4
  | [], h => h.elim
  | [_], ⟨_, h⟩ => h.elim
  | [_, _], ⟨_, _, h⟩ => h.elim
  | [_, _, _], ⟨_, _, _, h⟩ => h.elim
  | [_, _, _, _], ⟨_, _, _, _, h⟩ => h.elim
  | _ :: _ :: _ :: _ :: _ :: _ :: _, ⟨_, _, _, _, _, h⟩ => h.elim

set_option maxRecDepth 100000 in
theorem law7_lifted (os : Os) (started : os.Started) (H : Type) (enc : TypeId × Value → H) :
    ReturnsInHanded {} Try.checked os 7 .any (Rows.fontAdvancesSpec.pre6 enc Try.prog Try.f7 Rows.fontAdvancesRow.domain false) (Rows.fontAdvancesSpec.post enc Try.prog Try.f7 false true false false) := by
  refine returnsInHanded_of_change (C := Try.checked) own_ started (by kernel_rfl) Try.func7
    (ChangeSpec.witness6 (enc := enc) (C := Try.checked) false ⟨#[], #[.agg #[.slice none 0 0, .slice none 0 0], .string ⟨#[]⟩, .int .u8 0, .int .u16 0, .int .u8 0], []⟩ 8 (by kernel_rfl) (by kernel_rfl) (by kernel_rfl) (by kernel_rfl)) ?_
  intro W base args ds gs before hval hW _ _
  exact law_row (P := Try.prog) (s := Rows.fontAdvancesSpec) 6 laidOut_ Try.func7 (by kernel_rfl) (by kernel_rfl) rfl (by kernel_rfl) Try.underlying4 (by kernel_rfl) (fun ds hds => by
    match ds, hds with
    | [a, b, c, d, e], _ => rfl) args7 hval hW

theorem FontAdvances_holds : Rows.FontAdvancesSaid :=
  OpenClaim.holds_of_wide 7 Try.f7 rfl rfl rfl rfl rfl rfl rfl ⟨rfl, rfl, rfl, rfl, rfl⟩ rfl rfl rfl rfl rfl (by kernel_rfl) Try.func7 (by kernel_rfl)
    (of_decide_eq_true (by kernel_rfl)) (by unfold Func.isWrapper; first | (rw [if_pos (by decide +kernel)]; kernel_rfl) | (rw [if_neg (by decide +kernel)]; exact ⟨rfl, rfl⟩))
    (fun os started H enc _ => law7_lifted os started H enc)
#print axioms FontAdvances_holds

end Go.Proofs.Ytllimenhdemgoaa
