/- What is pushed is a list of versions; what is read of it. -/
import Derived.Test.YtjjkgeeafjagkaaGreatWk
namespace Go.Proofs.YtjjkgeeafjagkaaGreat
open Go Go.RowKit
set_option linter.unusedSimpArgs false
set_option linter.unusedVariables false
theorem veat_left {a b : List Ve} {i : Nat} (h : i < a.length) : veat (a ++ b) i = veat a i := by
  unfold veat
  rw [List.getD_eq_getElem?_getD, List.getD_eq_getElem?_getD, List.getElem?_append_left h]
theorem veat_last (a : List Ve) (x : Ve) : veat (a ++ [x]) a.length = x := by
  unfold veat
  rw [List.getD_eq_getElem?_getD, List.getElem?_append_right (Nat.le_refl _), Nat.sub_self]
  rfl
theorem veat_take {l : List Ve} {i k : Nat} (h : i < k) : veat (l.take k) i = veat l i := by
  unfold veat
  rw [List.getD_eq_getElem?_getD, List.getD_eq_getElem?_getD, List.getElem?_take, if_pos h]
theorem stay_len (l : List Ve) : (stayL l).length ≤ l.length := by
  unfold stayL
  split
  · rw [List.length_take]; omega
  · exact Nat.le_refl _
theorem stay_at {l : List Ve} (hv : verB l = true) {i : Nat} (hi : i < (stayL l).length) : veat (stayL l) i = veat l i ∧ 0 < (veat l i).holds := by
  unfold stayL at hi ⊢
  split
  · rename_i h
    rw [if_pos h, List.length_take] at hi
    exact ⟨veat_take (by omega), ver_held hv (by omega)⟩
  · rename_i h
    rw [if_neg h] at hi
    refine ⟨rfl, ?_⟩
    rcases Nat.lt_or_ge (i + 1) l.length with h2 | h2
    · exact ver_held hv h2
    · have hi2 : i = l.length - 1 := by omega
      have := (vok_true.1 ((ver_true.1 hv).2 i hi)).1
      rw [← hi2] at h
      omega
theorem next_gt {l : List Ve} (hv : verB l = true) {i : Nat} (hi : i < l.length) : (veat l i).num < nextN l := by
  unfold nextN
  rw [if_pos (by omega)]
  rcases Nat.lt_or_ge i (l.length - 1) with h | h
  · have := ver_sorted hv i (l.length - 1) h (by omega)
    omega
  · have : i = l.length - 1 := by omega
    subst this
    omega
theorem next_pos {l : List Ve} (hv : verB l = true) : 1 ≤ nextN l := by
  unfold nextN
  split
  · rename_i h
    have := (vok_true.1 ((ver_true.1 hv).2 (l.length - 1) (by omega))).1
    omega
  · exact Int.le_refl _
theorem push_ver {l : List Ve} {d : Do} {h : Int} (hh : 0 ≤ h ∧ h ≤ 1000) (hv : verB l = true) (hd : docB d = true) (h50 : (stayL l).length ≠ 50) (hn : ¬ 1000000 < nextN l) : verB (stayL l ++ [⟨nextN l, h, d⟩]) = true := by
  have hl := (ver_true.1 hv).1
  have hsl := stay_len l
  have hlen : (stayL l ++ [(⟨nextN l, h, d⟩ : Ve)]).length = (stayL l).length + 1 := by simp
  rw [ver_true]
  refine ⟨by omega, fun i hi => ?_⟩
  rw [hlen] at hi
  have hnp := next_pos hv
  rw [vok_true]
  rcases Nat.lt_or_ge i (stayL l).length with hi2 | hi2
  · obtain ⟨e, hp⟩ := stay_at hv hi2
    have ho := vok_true.1 ((ver_true.1 hv).2 i (by omega))
    rw [veat_left hi2, e]
    refine ⟨⟨ho.1.1, fun h0 => ?_, ho.1.2.2.1, fun h0 => by omega⟩, ho.2⟩
    rw [veat_left (by omega), (stay_at hv (show i - 1 < (stayL l).length by omega)).1]
    exact ho.1.2.1 h0
  · have : i = (stayL l).length := by omega
    subst this
    rw [veat_last]
    refine ⟨⟨⟨hnp, by show nextN l ≤ 1000000; omega⟩, fun h0 => ?_, hh, fun _ => by rw [hlen]⟩, hd⟩
    rw [veat_left (by omega), (stay_at hv (show (stayL l).length - 1 < (stayL l).length by omega)).1]
    exact next_gt hv (by omega)
/-- What is pushed, held and read. -/
theorem push_hold {l : List Ve} {d : Do} (hv : verB l = true) (hd : docB d = true) (h50 : (stayL l).length ≠ 50) (hn : ¬ 1000000 < nextN l) :
    holdR (stayL l ++ [⟨nextN l, 0, d⟩]) = (stayL l ++ [⟨nextN l, 1, d⟩], nextN l, 0) := by
  have hlen : (stayL l ++ [(⟨nextN l, 0, d⟩ : Ve)]).length = (stayL l).length + 1 := by simp
  unfold holdR
  rw [push_ver (by decide) hv hd h50 hn, if_neg (by simp), if_neg (by omega), hlen, Nat.add_sub_cancel, veat_last, if_neg (by show ¬ (0 : Int) = 1000; decide)]
  unfold chg
  rw [veat_last, if_neg (by rintro ⟨h, _⟩; exact absurd (show (0 : Int) + 1 = 0 from h) (by decide))]
  have e : (stayL l ++ [(⟨nextN l, 0, d⟩ : Ve)]).set (stayL l).length (held ⟨nextN l, 0, d⟩ 1) = stayL l ++ [⟨nextN l, 1, d⟩] := by
    rw [List.set_append_right _ _ (Nat.le_refl _), Nat.sub_self]
    rfl
  rw [e]
theorem push_ix {l : List Ve} {d : Do} {h : Int} (hv : verB l = true) : vix (stayL l ++ [⟨nextN l, h, d⟩]) (nextN l) = ((stayL l).length : Int) := by
  have hlen : (stayL l ++ [(⟨nextN l, h, d⟩ : Ve)]).length = (stayL l).length + 1 := by simp
  have hsl := stay_len l
  rcases vix_cases (stayL l ++ [(⟨nextN l, h, d⟩ : Ve)]) (nextN l) with ⟨i, h1, h2, _, h4⟩ | ⟨h1, _⟩
  · rcases Nat.lt_or_ge i (stayL l).length with h5 | h5
    · rw [veat_left h5, (stay_at hv h5).1] at h2
      have := next_gt hv (i := i) (by omega)
      omega
    · omega
  · exact absurd (by rw [veat_last]) (h1 (stayL l).length (by omega))
theorem push_doc {l : List Ve} {d : Do} (hv : verB l = true) (hd : docB d = true) (h50 : (stayL l).length ≠ 50) (hn : ¬ 1000000 < nextN l) : docR (stayL l ++ [⟨nextN l, 1, d⟩]) (nextN l) = (d, 0) := by
  unfold docR
  rw [push_ver (by decide) hv hd h50 hn, push_ix hv, if_neg (by simp), if_neg (by omega), Int.toNat_natCast, veat_last]
end Go.Proofs.YtjjkgeeafjagkaaGreat
