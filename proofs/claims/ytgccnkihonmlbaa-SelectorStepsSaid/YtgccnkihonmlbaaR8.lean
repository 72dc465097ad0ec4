/- What is proved: for whatever nodes, selector and test the law SelectorSteps returns true. The arguments read as they did. No conditions. -/
import Derived.Test.YtgccnkihonmlbaaTd
import Derived.Test.YtgccnkihonmlbaaFm
import Derived.Test.YtgccnkihonmlbaaAq
namespace Go.Proofs.Ytgccnkihonmlbaa
open Go Go.RowKit Go.ChangeShapes Go.WideShapes
set_option linter.unusedSimpArgs false
set_option linter.unusedVariables false
set_option linter.constructorNameAsVariable false

theorem bytes40 : Try.prog.bytesOf 40 = 32 := by kernel_rfl
set_option maxRecDepth 100000 in
theorem args8 : ∀ Ds, ArgSh Try.prog 6 Try.f8.params.toList Ds → Short Try.prog Try.f8.params.toList Ds → PCall Try.prog (.func 8) Ds (.bool true)
  | [a, b, c], ⟨h1, h2, h3, _⟩, hsh => by
    obtain ⟨x0, rfl⟩ := argD_nodes h1
    obtain ⟨x1, rfl⟩ := argD_tests h2
    obtain ⟨x2, rfl⟩ := argD_test h3
    have hb : x1.length ≤ 4398046510976 := by
      have h := hsh 1 23 40 4 (x1.map trow) .no rfl Try.underlying23 rfl
      rw [List.length_map, bytes40] at h
      have h2 : x1.length * 32 ≤ 140737488351232 := h
      omega
    exact law8_w x0 x1 x2 hb
  | [], h, _ => h.elim
  | [_], ⟨_, h⟩, _ => h.elim
  | [_, _], ⟨_, _, h⟩, _ => h.elim
  | _ :: _ :: _ :: _ :: _, ⟨_, _, _, h⟩, _ => h.elim

set_option maxRecDepth 100000 in
theorem law8_lifted (os : Os) (started : os.Started) (H : Type) (enc : TypeId × Value → H) :
    ReturnsInHanded {} Try.checked os 8 .any (Rows.selectorStepsSpec.pre6 enc Try.prog Try.f8 Rows.selectorStepsRow.domain false) (Rows.selectorStepsSpec.post enc Try.prog Try.f8 false true false false) := by
  refine returnsInHanded_of_change_sized (C := Try.checked) own_ started (by kernel_rfl) Try.func8
    (ChangeSpec.witness6 (enc := enc) (C := Try.checked) false ⟨#[], #[.slice none 0 0, .slice none 0 0, .agg #[.int .i64 0, .int .i64 0, .int .i64 0, .bool false]], []⟩ 8 (by kernel_rfl) (by kernel_rfl) (by kernel_rfl) (by kernel_rfl)) ?_
  intro W base args ds gs before hval hW _ hz _
  exact law_rowS (P := Try.prog) (s := Rows.selectorStepsSpec) 6 laidOut_ Try.func8 (by kernel_rfl) (by kernel_rfl) rfl (by kernel_rfl) Try.underlying4 (by kernel_rfl) (fun ds hds => by
    match ds, hds with
    | [a, b, c], _ => rfl) args8 hval hW hz

theorem SelectorSteps_holds : Rows.SelectorStepsSaid :=
  OpenClaim.holds_of_wide 8 Try.f8 rfl rfl rfl rfl rfl rfl rfl ⟨rfl, rfl, rfl, rfl, rfl⟩ rfl rfl rfl rfl rfl (by kernel_rfl) Try.func8 (by kernel_rfl)
    (of_decide_eq_true (by kernel_rfl)) (by unfold Func.isWrapper; first | (rw [if_pos (by decide +kernel)]; kernel_rfl) | (rw [if_neg (by decide +kernel)]; exact ⟨rfl, rfl⟩))
    (fun os started H enc _ => law8_lifted os started H enc)
#print axioms SelectorSteps_holds

end Go.Proofs.Ytgccnkihonmlbaa
