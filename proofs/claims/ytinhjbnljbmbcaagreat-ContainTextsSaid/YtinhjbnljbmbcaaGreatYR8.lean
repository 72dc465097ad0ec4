/- What is proved: for whatever document, place, reader, fonts and breaks the law ContainTexts returns true. The arguments read as they did. No conditions. -/
import Derived.Test.YtinhjbnljbmbcaaGreatYFc
import Derived.Test.YtinhjbnljbmbcaaGreatY14
import Derived.Test.YtinhjbnljbmbcaaGreatYFx
namespace Go.Proofs.YtinhjbnljbmbcaaGreat
open Go Go.RowKit Go.ChangeShapes Go.WideShapes
set_option linter.unusedSimpArgs false
set_option linter.unusedVariables false
set_option linter.constructorNameAsVariable false
set_option maxRecDepth 100000 in
theorem args8 : ∀ Ds, ArgShC Tryz.prog Tryz.f8.params.toList Ds → (∀ sz rows tk rest Es, Ds = .ag (.sl sz rows tk :: rest) :: Es → rows.length * Tryz.prog.bytesOf 45 ≤ reachBytes) → PCall Tryz.prog (.func 8) Ds (.bool true)
 | [a, b, c, d, e], ⟨h1, h2, h3, h4, h5, _⟩ => fun hsz => by
  obtain ⟨n0, h1⟩ := h1
  obtain ⟨x0, rfl⟩ := argD_doc h1
  obtain ⟨n1, h2⟩ := h2
  obtain ⟨x1, rfl⟩ := argD_int Tryz.underlying5 h2
  obtain ⟨n2, h3⟩ := h3
  obtain ⟨x2, rfl⟩ := argD_reader h3
  obtain ⟨n3, h4⟩ := h4
  obtain ⟨x3, rfl⟩ := argD_fonts h4
  obtain ⟨n4, h5⟩ := h5
  obtain ⟨x4, rfl⟩ := argD_breaks h5
  exact law8_w x0 x1 x2.1 x2.2.1 x2.2.2 x3 x4 (by
    have h := hsz _ _ _ _ _ rfl
    rw [List.length_map, show Tryz.prog.bytesOf 45 = 48 by kernel_rfl] at h
    unfold reachBytes at h
    omega)
 | [], h => h.elim
 | [_], ⟨_, h⟩ => h.elim
 | [_, _], ⟨_, _, h⟩ => h.elim
 | [_, _, _], ⟨_, _, _, h⟩ => h.elim
 | [_, _, _, _], ⟨_, _, _, _, h⟩ => h.elim
 | _ :: _ :: _ :: _ :: _ :: _ :: _, ⟨_, _, _, _, _, h⟩ => h.elim
set_option maxRecDepth 100000 in
theorem law8_lifted (os : Os) (started : os.Started) (H : Type) (enc : TypeId × Value → H) :
  ReturnsInHanded {} Tryz.checked os 8 .any (Rows.containTextsSpec.pre6 enc Tryz.prog Tryz.f8 Rows.containTextsRow.domain false) (Rows.containTextsSpec.post enc Tryz.prog Tryz.f8 false true false false) := by
 refine returnsInHanded_of_change_sized (C := Tryz.checked) own_ started (by kernel_rfl) Tryz.func8
  (ChangeSpec.witness6 (enc := enc) (C := Tryz.checked) false ⟨#[], #[.agg #[.slice none 0 0, .slice none 0 0, .slice none 0 0, .slice none 0 0], .int .u8 0, .agg #[.int .i64 0, .int .i64 0, .int .i64 0], .slice none 0 0, .slice none 0 0], []⟩ 8 (by kernel_rfl) (by kernel_rfl) (by kernel_rfl) (by kernel_rfl)) ?_
 intro W base args ds gs before hval hW _ hz _
 exact law_rowF (P := Tryz.prog) (s := Rows.containTextsSpec) [27, 22, 23, 24, 25, 45, 114, 60, 63, 110, 111, 112, 117, 120, 109, 107, 105, 57, 58, 132, 134, 61, 9, 4, 5, 3, 29] (by kernel_rfl) laidOut_ Tryz.func8 (by kernel_rfl) (by kernel_rfl) rfl (by kernel_rfl) Tryz.underlying4 rfl Tryz.underlying27 rfl rfl (by kernel_rfl) Tryz.underlying22 (by kernel_rfl) (fun ds hds => by
   match ds, hds with
   | [a, b, c, d, e], _ => rfl) args8 hval hW hz
theorem ContainTexts_holds : Rows.ContainTextsSaid :=
 OpenClaim.holds_of_wide 8 Tryz.f8 rfl rfl rfl rfl rfl rfl rfl ⟨rfl, rfl, rfl, rfl, rfl⟩ rfl rfl rfl rfl rfl (by kernel_rfl) Tryz.func8 (by kernel_rfl)
  (of_decide_eq_true (by kernel_rfl)) (by unfold Func.isWrapper; first | (rw [if_pos (by decide +kernel)]; kernel_rfl) | (rw [if_neg (by decide +kernel)]; exact ⟨rfl, rfl⟩))
  (fun os started H enc _ => law8_lifted os started H enc)
#print axioms ContainTexts_holds
end Go.Proofs.YtinhjbnljbmbcaaGreat
