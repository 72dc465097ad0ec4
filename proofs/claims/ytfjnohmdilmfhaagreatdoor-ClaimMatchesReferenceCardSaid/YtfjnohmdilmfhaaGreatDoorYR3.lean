/- What is proved: for whatever boxes, claim and source the law ClaimMatchesReference returns true. The arguments read as they did. The row's listed variables read as the program's text lays them (the tied card). -/
import Derived.Test.YtfjnohmdilmfhaaGreatDoorY10
namespace Go.Proofs.YtfjnohmdilmfhaaGreatDoor
open Go Go.RowKit Go.ChangeShapes Go.WideShapes
set_option linter.unusedSimpArgs false
set_option linter.unusedVariables false
set_option linter.constructorNameAsVariable false
set_option maxRecDepth 100000 in
theorem args3 : ∀ Ds, ArgShC Tryz.prog Tryz.f3.params.toList Ds → PCall Tryz.prog (.func 3) Ds (.bool true)
 | [a, b, c], ⟨h1, h2, h3, _⟩ => by
  obtain ⟨n0, h1⟩ := h1
  obtain ⟨x0, rfl⟩ := argD_boxes h1
  obtain ⟨n1, h2⟩ := h2
  obtain ⟨x1, rfl⟩ := argD_cl h2
  obtain ⟨n2, h3⟩ := h3
  obtain ⟨x2, rfl⟩ := argD_str h3
  exact law3_w x0 .no x1 x2
 | [], h => h.elim
 | [_], ⟨_, h⟩ => h.elim
 | [_, _], ⟨_, _, h⟩ => h.elim
 | _ :: _ :: _ :: _ :: _, ⟨_, _, _, h⟩ => h.elim
set_option maxRecDepth 100000 in
theorem law3_lifted (os : Os) (started : os.Started) (H : Type) (enc : TypeId × Value → H) :
  ReturnsInHanded {} Tryz.checked os 3 .any (fun w args => (Rows.claimMatchesReferenceSpec.pre enc Tryz.prog Tryz.f3 [] false w args ∧ laidMetH Tryz.prog laidL w) ∧ sizedMet enc Tryz.prog Tryz.f3 (OpenSpec.ofChange Rows.claimMatchesReferenceSpec) false w args) (Rows.claimMatchesReferenceSpec.post enc Tryz.prog Tryz.f3 false true false false) := by
 refine returnsInHanded_of_change_andS (C := Tryz.checked) (X := fun w _ => laidMetH Tryz.prog laidL w) (fun _ _ _ hh h => h.of_heap hh) own_ started (by kernel_rfl) Tryz.func3
  (ChangeSpec.witness_shaped (enc := enc) (C := Tryz.checked) (os := os) (X := fun w _ => laidMetH Tryz.prog laidL w) false (World.laidAll Tryz.prog os laidL) #[.slice none 0 0, .agg #[.int .i64 0, .int .i64 0, .int .i64 0, .int .i64 0, .slice none 0 0], .string ByteArray.empty] 8 (World.laidAll_os _ _ _) (World.shaped_of_ZipB (by kernel_rfl) (by kernel_rfl)) (by kernel_rfl) (by kernel_rfl) (by kernel_rfl) (door_met os _)) ?_
 intro W base args ds gs before hval hW hL hsh
 exact law_rowC (P := Tryz.prog) (s := Rows.claimMatchesReferenceSpec) [22, 25, 23, 45, 43, 47, 9, 3, 4, 5, 21] (by kernel_rfl) laidOut_ Tryz.func3 (by kernel_rfl) (by kernel_rfl) rfl (by kernel_rfl) Tryz.underlying4 (by kernel_rfl) (fun ds hds => by
   match ds, hds with
   | [a, b, c], _ => rfl) args3 hval hW (glob_of hL hsh)
theorem ClaimMatchesReferenceRow_holds : Rows.ClaimMatchesReferenceSaid :=
 OpenClaim.holds_of_wide 3 Tryz.f3 rfl rfl rfl rfl rfl rfl rfl ⟨rfl, rfl, rfl, rfl, rfl⟩ rfl rfl rfl rfl rfl (by kernel_rfl) Tryz.func3 (by kernel_rfl)
  (of_decide_eq_true (by kernel_rfl)) (by unfold Func.isWrapper; first | (rw [if_pos (by decide +kernel)]; kernel_rfl) | (rw [if_neg (by decide +kernel)]; exact ⟨rfl, rfl⟩))
  (fun os started H enc _ => law3_lifted os started H enc)
theorem ClaimMatchesReferenceCard_holds : Rows.ClaimMatchesReferenceCardSaid :=
 Claim7.holds_tied_plain_at .later [] [.data, .data, .data, .data, .sentinel, .sentinel, .pinned] true (true, "ffa57932fed1e5034afcdafc2e7fb200ae17bbbffa781bb60b8086dfdabc6cc7") true
  ClaimMatchesReferenceRow_holds (fun _ h => by cases h) (by kernel_rfl) (fun _ h => by cases h) claimMatchesReference_row_tie rfl ⟨rfl, rfl⟩ (by kernel_rfl) rfl
  (fun f fn hf hfn => by
    obtain rfl : f = 3 := Option.some.inj ((show Tryz.prog.funcNamed "forme/formelaw29.ClaimMatchesReference" = some 3 by kernel_rfl).symm.trans hf) |>.symm
    obtain rfl : fn = Tryz.f3 := (Option.some.inj (Tryz.func3.symm.trans hfn)).symm
    exact ⟨by kernel_rfl, fun j t ht => by
      rw [Tryz.params3] at ht
      exact noStand (l := [22, 25, 9]) (by kernel_rfl) ht⟩)
  (by kernel_rfl)
#print axioms ClaimMatchesReferenceCard_holds
end Go.Proofs.YtfjnohmdilmfhaaGreatDoor
