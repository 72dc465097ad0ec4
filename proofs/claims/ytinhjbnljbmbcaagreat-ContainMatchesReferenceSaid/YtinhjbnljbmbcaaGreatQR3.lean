/- Joined. -/
import Derived.Test.YtinhjbnljbmbcaaGreatQ14
import Derived.Test.YtinhjbnljbmbcaaGreatQFm
namespace Go.Proofs.YtinhjbnljbmbcaaGreat
open Go Go.RowKit Go.ChangeShapes Go.WideShapes
set_option linter.unusedSimpArgs false
set_option linter.unusedVariables false
set_option linter.constructorNameAsVariable false
set_option maxRecDepth 100000 in
theorem args3 : ∀ Ds, ArgShC Tryz.prog Tryz.f3.params.toList Ds → PCall Tryz.prog (.func 3) Ds (.bool true)
 | [a, b, c], ⟨h1, h2, h3, _⟩ => by
  obtain ⟨n0, h1⟩ := h1
  obtain ⟨x0, rfl⟩ := argD_doc h1
  obtain ⟨n1, h2⟩ := h2
  obtain ⟨x1, rfl⟩ := argD_int Tryz.underlying3 h2
  obtain ⟨n2, h3⟩ := h3
  obtain ⟨x2, rfl⟩ := argD_reader h3
  exact law3_w x0 x1 x2.1 x2.2.1 x2.2.2
 | [], h => h.elim
 | [_], ⟨_, h⟩ => h.elim
 | [_, _], ⟨_, _, h⟩ => h.elim
 | _ :: _ :: _ :: _ :: _, ⟨_, _, _, h⟩ => h.elim
set_option maxRecDepth 100000 in
theorem law3_lifted (os : Os) (started : os.Started) (H : Type) (enc : TypeId × Value → H) :
  ReturnsInHanded {} Tryz.checked os 3 .any (Rows.containMatchesReferenceSpec.pre6 enc Tryz.prog Tryz.f3 Rows.containMatchesReferenceRow.domain false) (Rows.containMatchesReferenceSpec.post enc Tryz.prog Tryz.f3 false true false false) := by
 refine returnsInHanded_of_change (C := Tryz.checked) own_ started (by kernel_rfl) Tryz.func3
  (ChangeSpec.witness6 (enc := enc) (C := Tryz.checked) false ⟨#[], #[.agg #[.slice none 0 0, .slice none 0 0, .slice none 0 0, .slice none 0 0], .int .i64 0, .agg #[.int .i64 0, .int .i64 0, .int .i64 0]], []⟩ 8 (by kernel_rfl) (by kernel_rfl) (by kernel_rfl) (by kernel_rfl)) ?_
 intro W base args ds gs before hval hW _ _
 exact law_rowC (P := Tryz.prog) (s := Rows.containMatchesReferenceSpec) [27, 22, 23, 24, 25, 45, 114, 60, 63, 110, 111, 112, 117, 120, 109, 107, 105, 57, 58, 132, 134, 61, 9, 4, 5, 3, 29] (by kernel_rfl) laidOut_ Tryz.func3 (by kernel_rfl) (by kernel_rfl) rfl (by kernel_rfl) Tryz.underlying4 (by kernel_rfl) (fun ds hds => by
   match ds, hds with
   | [a, b, c], _ => rfl) args3 hval hW
theorem ContainMatchesReference_holds : Rows.ContainMatchesReferenceSaid :=
 OpenClaim.holds_of_wide 3 Tryz.f3 rfl rfl rfl rfl rfl rfl rfl ⟨rfl, rfl, rfl, rfl, rfl⟩ rfl rfl rfl rfl rfl (by kernel_rfl) Tryz.func3 (by kernel_rfl)
  (of_decide_eq_true (by kernel_rfl)) (by unfold Func.isWrapper; first | (rw [if_pos (by decide +kernel)]; kernel_rfl) | (rw [if_neg (by decide +kernel)]; exact ⟨rfl, rfl⟩))
  (fun os started H enc _ => law3_lifted os started H enc)
#print axioms ContainMatchesReference_holds
end Go.Proofs.YtinhjbnljbmbcaaGreat
