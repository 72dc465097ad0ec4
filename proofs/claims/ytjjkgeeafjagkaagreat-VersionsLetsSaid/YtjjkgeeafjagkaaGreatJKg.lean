/- append of a part of rows behind another part of the same rows; where a version's number is found. -/
import Derived.Test.YtjjkgeeafjagkaaGreatJDh
namespace Go.Proofs.YtjjkgeeafjagkaaGreat
open Go Go.RowKit
set_option linter.unusedSimpArgs false
set_option linter.unusedVariables false
section
variable {P : Program} {σ : Store}
theorem nappM_cut {ts : Array TypeId} {T U V : TypeId} {g : Bool} {sz by_ b c n k cc : Nat} {z : List D} {rows : List (List D)} {K : D → Store → Prop}
    (hg : σ.get b = some (.arr sz rows c)) (hn : rows.length = n) (hk : k + 1 < n) (hc : n ≤ c) (hcell : ∀ r ∈ rows, r.all D.isCell = true) (hT : ts[0]? = some T) (hV : ts[1]? = some V) (hV' : (sle P V).isSome = true) (hs : sle P T = some (U, g, sz)) (hy : eby P T = some by_) (hz : zc P U = some z)
    (hside : (z.length = sz ∧ 0 < sz ∧ 0 < by_) ∧ n * by_ ≤ capB)
    (hK : K (.arr b sz (n - 1) c) (σ.upd b (.arr sz (rows.eraseIdx k ++ [rows.getD (n - 1) []]) c))) :
    nappM P σ ts (.arr b sz k c) (.v (.slice (some ⟨b, (k + 1) * sz, none⟩) (n - (k + 1)) cc)) K := by
  obtain ⟨⟨hz1, h0, hb0⟩, hfit⟩ := hside
  have hdv : (k + 1) * sz / sz = k + 1 := Nat.mul_div_cancel _ h0
  have hro : rowsOf σ (.v (.slice (some ⟨b, (k + 1) * sz, none⟩) (n - (k + 1)) cc)) = some (sz, rows.drop (k + 1)) := by
    simp only [rowsOf, hg, hdv]
    rw [if_pos ⟨h0, Nat.mul_mod_left _ _, by omega⟩, List.take_of_length_le (by rw [List.length_drop]; omega)]
  have hl : (rows.drop (k + 1)).length = n - (k + 1) := by rw [List.length_drop, hn]
  have hle : (k + (rows.drop (k + 1)).length) * by_ ≤ n * by_ := Nat.mul_le_mul_right _ (by omega)
  unfold nappM
  simp only [hT, Option.bind_some, hs, hy, hro, hg]
  refine ⟨⟨⟨z, hz, hz1⟩, ⟨V, hV, .inl hV'⟩, h0, hb0, .inr trivial, ?_⟩, ⟨trivial, trivial, trivial, by omega, by omega⟩, fun _ => ?_, fun h => by omega⟩
  · rw [List.all_eq_true]
    exact fun r hr => hcell r (List.mem_of_mem_drop hr)
  · have e1 : k + (rows.drop (k + 1)).length = n - 1 := by omega
    have e2 : rows.drop (n - 1) = [rows.getD (n - 1) []] := by
      rw [List.drop_eq_getElem_cons (by omega), List.drop_of_length_le (by omega), List.getD_eq_getElem?_getD, List.getElem?_eq_getElem (by omega)]
      rfl
    rw [e1, e2, ← List.eraseIdx_eq_take_drop_succ]
    exact hK
end
theorem vix_self {l : List Ve} {k : Nat} (hv : verB l = true) (hk : k < l.length) : vix l (veat l k).num = (k : Int) := by
  rcases vix_cases l (veat l k).num with ⟨i, h1, h3, _, h4⟩ | ⟨h1, _⟩
  · rcases Nat.lt_trichotomy i k with h | rfl | h
    · have := ver_sorted hv i k h hk; omega
    · exact h4
    · have := ver_sorted hv k i h h1; omega
  · exact absurd rfl (h1 k hk)
end Go.Proofs.YtjjkgeeafjagkaaGreat
