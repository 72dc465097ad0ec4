/- What a call of the laws' play comes to, in plain data. -/
import Derived.Test.YtjjkgeeafjagkaaGreatJDg
import Derived.Test.YtjjkgeeafjagkaaGreatWk
namespace Go.Proofs.YtjjkgeeafjagkaaGreat
open Go Go.RowKit
set_option linter.unusedSimpArgs false
set_option linter.unusedVariables false
noncomputable def playR (l : List Ve) (a b : Int) : List Ve × Int × Int :=
  if a.tmod 3 = 0 then (if (pushR l (docC (b.tmod 101))).2 = 0 then ((pushR l (docC (b.tmod 101))).1, 0, 0) else (l, 0, 0))
  else if a.tmod 3 = 1 then (if (holdR l).2.2 = 0 then ((holdR l).1, (holdR l).2.1, 0) else (l, 0, 0))
  else if l.length = 0 then (l, 0, 0)
  else if (letR l (veat l (b.tmod l.length).toNat).num).2 = 0 then ((letR l (veat l (b.tmod l.length).toNat).num).1, 0, (veat l (b.tmod l.length).toNat).num) else (l, 0, 0)
/-- A class of the law's document. -/
theorem class_ok {b : Int} (h : 0 ≤ b) : 0 ≤ b.tmod 101 ∧ b.tmod 101 ≤ 100 := by
  have e : b.tmod 101 = b % 101 := Int.tmod_eq_emod_of_nonneg h
  omega
theorem mod_ix {b : Int} {l : List Ve} (h : 0 ≤ b) (hl : l.length ≠ 0) : ∃ k : Nat, b.tmod l.length = (k : Int) ∧ k < l.length := by
  have e : b.tmod (l.length : Int) = b % (l.length : Int) := Int.tmod_eq_emod_of_nonneg h
  have h1 := Int.emod_nonneg b (show (l.length : Int) ≠ 0 by omega)
  have h2 := Int.emod_lt_of_pos b (show (0 : Int) < (l.length : Int) by omega)
  exact ⟨(b.tmod l.length).toNat, by omega, by omega⟩
theorem mod_three {a : Int} (h : 0 ≤ a) : a.tmod 3 = 0 ∨ a.tmod 3 = 1 ∨ a.tmod 3 = 2 := by
  have e : a.tmod 3 = a % 3 := Int.tmod_eq_emod_of_nonneg h
  omega
end Go.Proofs.YtjjkgeeafjagkaaGreat
