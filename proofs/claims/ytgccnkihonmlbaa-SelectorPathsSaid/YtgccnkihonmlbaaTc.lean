/- Plain facts behind the law of steps of selectors. -/
import Derived.Test.YtgccnkihonmlbaaTb
import Derived.Test.YtgccnkihonmlbaaSo
namespace Go.Proofs.Ytgccnkihonmlbaa
open Go Go.RowKit
set_option linter.unusedSimpArgs false
set_option linter.unusedVariables false

theorem mem_allP {l : List Nd} (hT : Tree l) {ts : List Ts} {i : Nat} (hi : i < l.length) : iin (allP l ts l.length) (nat l i).id = mtB l ts ts.length i := by
  unfold iin
  rw [Bool.eq_iff_iff, decide_eq_true_eq]
  constructor
  · intro h
    unfold allP at h
    obtain ⟨j, hj, e⟩ := List.mem_map.1 h
    obtain ⟨h1, h2⟩ := List.mem_filter.1 hj
    have hjl : j < l.length := List.mem_range.1 h1
    have e1 := idx_self hT hjl
    have e2 := idx_self hT hi
    rw [e] at e1
    have : j = i := by omega
    rw [← this]; exact h2
  · intro h
    unfold allP
    exact List.mem_map.2 ⟨i, List.mem_filter.2 ⟨List.mem_range.2 hi, h⟩, rfl⟩
/-- Above the node, among the first k of its path, is one that the shorter selector lists. -/
def abv (l : List Nd) (ts : List Ts) (T : Ts) (i k : Nat) : Bool := (List.range k).any fun q => iin (allP l ts l.length) (iat (pathL l i) q) && (!T.child || decide (q + 2 = (pathL l i).length))
theorem abv_succ (l : List Nd) (ts : List Ts) (T : Ts) (i k : Nat) : abv l ts T i (k + 1) = (abv l ts T i k || (iin (allP l ts l.length) (iat (pathL l i) k) && (!T.child || decide (k + 2 = (pathL l i).length)))) := by
  unfold abv
  rw [List.range_succ, List.any_append]
  simp
theorem pathL_len (l : List Nd) (i : Nat) : (pathL l i).length = (chn l i).length + 1 := by unfold pathL; rw [List.length_reverse, upL_len]
theorem pathL_at {l : List Nd} {i q x : Nat} (h : (chn l i)[(chn l i).length - 1 - q]? = some x) (hq : q < (chn l i).length) : iat (pathL l i) q = (nat l x).id := by
  have hl := pathL_len l i
  have hu := upL_len l i
  unfold iat pathL
  rw [List.getD_eq_getElem?_getD, List.getElem?_reverse (by omega), hu]
  have e : (chn l i).length + 1 - 1 - q = (chn l i).length - 1 - q + 1 := by omega
  rw [e]
  simp [upL, h]
theorem step_w {l : List Nd} (hT : Tree l) {ts : List Ts} {T : Ts} {i : Nat} (hi : i < l.length) (h1 : 1 ≤ ts.length) :
    iin (allP l (ts ++ [T]) l.length) (nat l i).id = (abv l ts T i (chn l i).length && fuB (nat l i) T) := by
  rw [mem_allP hT hi]
  have e1 : (ts ++ [T]).length = ts.length + 1 := by simp
  have e2 : tat (ts ++ [T]) ts.length = T := by simp [tat, List.getD_eq_getElem?_getD]
  have e3 : mtB l (ts ++ [T]) ts.length = mtB l ts ts.length := funext fun x => by
    have := mtB_take (l := l) (ts := ts ++ [T]) (n := ts.length) ts.length x (Nat.le_refl _)
    rw [List.take_left] at this
    exact this.symm
  rw [e1]
  simp only [mtB, e2, e3]
  have h0 : decide (ts.length = 0) = false := decide_eq_false (by omega)
  rw [h0, Bool.false_or, Bool.and_comm]
  congr 1
  rw [Bool.eq_iff_iff]
  unfold abv
  have hl := pathL_len l i
  constructor
  · intro h
    rw [List.any_eq_true] at h ⊢
    obtain ⟨x, hx, hm⟩ := h
    obtain ⟨r, hr, hc⟩ : ∃ r, (chn l i)[r]? = some x ∧ (T.child = true → r = 0) := by
      split at hx
      · rename_i hc
        cases hcn : chn l i with
        | nil => rw [hcn] at hx; simp at hx
        | cons a c => rw [hcn] at hx; simp at hx; exact ⟨0, by simp [hx], fun _ => rfl⟩
      · rename_i hc
        obtain ⟨r, hr, e⟩ := List.mem_iff_getElem.1 hx
        exact ⟨r, by rw [← e]; exact List.getElem?_eq_getElem hr, fun h => absurd h hc⟩
    have hrl := (List.getElem?_eq_some_iff.1 hr).1
    refine ⟨(chn l i).length - 1 - r, List.mem_range.2 (by omega), ?_⟩
    have e : (chn l i).length - 1 - ((chn l i).length - 1 - r) = r := by omega
    rw [pathL_at (x := x) (by rw [e]; exact hr) (by omega), mem_allP hT (by have := (chn_step l i hr).2; omega), hm, hl]
    cases hcc : T.child with
    | false => rfl
    | true =>
      have := hc hcc
      rw [decide_eq_true (by omega)]; rfl
  · intro h
    rw [List.any_eq_true] at h
    obtain ⟨q, hq, hm⟩ := h
    have hql := List.mem_range.1 hq
    have hlt : (chn l i).length - 1 - q < (chn l i).length := by omega
    obtain ⟨x, hx⟩ : ∃ x, (chn l i)[(chn l i).length - 1 - q]? = some x := ⟨_, List.getElem?_eq_getElem hlt⟩
    rw [pathL_at hx hql, mem_allP hT (by have := (chn_step l i hx).2; omega), hl] at hm
    simp only [Bool.and_eq_true, Bool.or_eq_true, Bool.not_eq_true', decide_eq_true_eq] at hm
    refine any_hit (j := (chn l i).length - 1 - q) hx hm.1 fun hc => ?_
    rcases hm.2 with h | h
    · rw [h] at hc; cases hc
    · omega
end Go.Proofs.Ytgccnkihonmlbaa
