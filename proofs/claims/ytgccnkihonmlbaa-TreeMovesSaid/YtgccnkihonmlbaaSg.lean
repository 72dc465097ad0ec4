/- Plain facts of selectors: what is above a node, what a selector matches. -/
import Derived.Test.YtgccnkihonmlbaaSf
namespace Go.Proofs.Ytgccnkihonmlbaa
open Go Go.RowKit
set_option linter.unusedSimpArgs false
set_option linter.unusedVariables false

/-- The places above a node, the nearest first. -/
def chn (l : List Nd) (i : Nat) : List Nat :=
  if 0 ≤ pix l i then (pix l i).toNat :: chn l (pix l i).toNat else []
termination_by i
decreasing_by
  have := pix_lt l i
  omega
theorem chn_eq (l : List Nd) (i : Nat) : chn l i = if 0 ≤ pix l i then (pix l i).toNat :: chn l (pix l i).toNat else [] := by rw [chn]
def upc (c : List Nat) (j : Nat) : Int := match c[j]? with
  | some x => (x : Int)
  | none => -1
theorem chn_zero (l : List Nd) (i : Nat) : pix l i = upc (chn l i) 0 := by
  have := pix_ge l i
  rw [chn_eq]
  split <;> simp [upc] <;> omega
theorem chn_step (l : List Nd) : ∀ (i : Nat) {j x : Nat}, (chn l i)[j]? = some x → pix l x = upc (chn l i) (j + 1) ∧ x < i := by
  intro i
  induction i using Nat.strongRecOn with
  | ind i ih =>
    intro j x h
    have hlt := pix_lt l i
    rw [chn_eq] at h ⊢
    split at h
    · rename_i hp
      rw [if_pos hp]
      cases j with
      | zero =>
        simp only [List.getElem?_cons_zero, Option.some.injEq] at h
        subst h
        have := chn_zero l (pix l i).toNat
        refine ⟨?_, by omega⟩
        rw [this]; simp [upc]
      | succ j =>
        rw [List.getElem?_cons_succ] at h
        obtain ⟨h1, h2⟩ := ih (pix l i).toNat (by omega) h
        refine ⟨?_, by omega⟩
        rw [h1]; simp [upc]
    · simp at h
theorem upc_pos {c : List Nat} {j : Nat} (h : 0 ≤ upc c j) : ∃ x : Nat, c[j]? = some x ∧ upc c j = (x : Int) := by
  unfold upc at h ⊢
  cases hc : c[j]? with
  | none => rw [hc] at h; simp at h
  | some x => exact ⟨x, rfl, rfl⟩
theorem upc_neg {c : List Nat} {j : Nat} (h : ¬ 0 ≤ upc c j) : c.length ≤ j := by
  unfold upc at h
  cases hc : c[j]? with
  | none => exact List.getElem?_eq_none_iff.1 hc
  | some x => rw [hc] at h; simp at h
theorem chn_len (l : List Nd) : ∀ i, ((chn l i).length : Int) + 1 = dpt l i := by
  intro i
  induction i using Nat.strongRecOn with
  | ind i ih =>
    have hlt := pix_lt l i
    rw [chn_eq, dpt_eq]
    split
    · have := ih (pix l i).toNat (by omega)
      rw [List.length_cons]; omega
    · simp

theorem up_pix {l : List Nd} (h : Tree l) {i : Nat} (hi : i < l.length) : idx l (nat l i).par = pix l i := by
  by_cases h0 : 0 < i
  · have hu := (h.up i h0 hi).1
    rcases idx_cases (l.take i) (nat l i).par with ⟨k, hk, h1, h2, h3⟩ | ⟨_, h3⟩
    · rw [List.length_take] at hk
      have e : pix l i = (k : Int) := h3
      rw [e]
      refine idx_is (by omega) ?_ fun j hj => ?_
      · rw [← h1, nat_take (by omega)]
      · have := h2 j hj
        rwa [nat_take (by omega)] at this
    · have : pix l i = -1 := h3
      omega
  · obtain rfl : i = 0 := by omega
    rw [h.root.1, pix_zero]
    refine idx_no fun j hj => ?_
    have := (fm_id (h.form j hj)).1
    omega

/-- What a selector's first tests match. -/
def mtB (l : List Nd) (ts : List Ts) : Nat → Nat → Bool
  | 0, _ => false
  | k + 1, i => fuB (nat l i) (tat ts k) && (decide (k = 0) || (if (tat ts k).child = true then (chn l i).take 1 else chn l i).any (mtB l ts k))
theorem mtB_take {l : List Nd} {ts : List Ts} {n : Nat} : ∀ (k : Nat) (i : Nat), k ≤ n → mtB l (ts.take n) k i = mtB l ts k i
  | 0, _, _ => rfl
  | k + 1, i, h => by
    have e : tat (ts.take n) k = tat ts k := by unfold tat; simp only [List.getD_eq_getElem?_getD]; rw [List.getElem?_take, if_pos (by omega)]
    have ih : mtB l (ts.take n) k = mtB l ts k := funext fun x => mtB_take k x (by omega)
    simp only [mtB, e, ih]
theorem any_hit {c : List Nat} {ch : Bool} {j x : Nat} {f : Nat → Bool} (hx : c[j]? = some x) (hf : f x = true) (h0 : ch = true → j = 0) : (if ch = true then c.take 1 else c).any f = true := by
  rw [List.any_eq_true]
  refine ⟨x, ?_, hf⟩
  split
  · have := h0 ‹_›
    subst this
    cases c with
    | nil => simp at hx
    | cons a c => simp at hx ⊢; exact hx.symm
  · exact List.mem_of_getElem? hx
theorem any_miss {c : List Nat} {ch : Bool} {j : Nat} {f : Nat → Bool} (h : ∀ q x, q < j → c[q]? = some x → f x = false) (hj : c.length ≤ j ∨ (ch = true ∧ 1 ≤ j)) : (if ch = true then c.take 1 else c).any f = false := by
  rw [List.any_eq_false]
  intro x hx
  rw [Bool.not_eq_true]
  split at hx
  · obtain ⟨q, hq, e⟩ := List.mem_iff_getElem.1 hx
    rw [List.length_take] at hq
    have e2 : c[q]? = some x := by
      rw [List.getElem_take] at e
      rw [← e]; exact List.getElem?_eq_getElem (by omega)
    exact h q x (by omega) e2
  · obtain ⟨q, hq, e⟩ := List.mem_iff_getElem.1 hx
    rcases hj with hj | hj
    · exact h q x (by omega) (by rw [← e]; exact List.getElem?_eq_getElem hq)
    · exact absurd hj.1 ‹_›
/-- What a selector matches, the first n nodes. -/
def allP (l : List Nd) (ts : List Ts) (n : Nat) : List Int := ((List.range n).filter fun i => mtB l ts ts.length i).map fun i => (nat l i).id
theorem allP_succ (l : List Nd) (ts : List Ts) (n : Nat) : allP l ts (n + 1) = if mtB l ts ts.length n = true then allP l ts n ++ [(nat l n).id] else allP l ts n := by
  unfold allP
  rw [List.range_succ, List.filter_append]
  cases h : mtB l ts ts.length n <;> simp [h]
theorem allP_len (l : List Nd) (ts : List Ts) (n : Nat) : (allP l ts n).length ≤ n := by
  unfold allP
  rw [List.length_map]
  exact Nat.le_trans (List.length_filter_le ..) (by simp)
/-- Weights. -/
def wt1 (t : Ts) : Int := (if t.id ≠ 0 then 10000 else 0) + (if t.cls ≠ 0 then 100 else 0) + (if t.kind ≠ 0 then 1 else 0)
def wtL (l : List Ts) : Int := (l.map wt1).sum
theorem wtL_take {l : List Ts} {i : Nat} (h : i < l.length) : wtL (l.take (i + 1)) = wtL (l.take i) + wt1 (tat l i) := by
  have e : l[i]? = some (tat l i) := by simp [tat, List.getD_eq_getElem?_getD, h]
  unfold wtL
  rw [List.take_add_one, e]
  simp
theorem wt1_range (t : Ts) : 0 ≤ wt1 t ∧ wt1 t ≤ 10101 := by
  unfold wt1
  split <;> split <;> split <;> omega
theorem wtL_range : ∀ l : List Ts, 0 ≤ wtL l ∧ wtL l ≤ 10101 * (l.length : Int)
  | [] => by simp [wtL]
  | t :: l => by
    have := wtL_range l
    have := wt1_range t
    simp only [wtL, List.map_cons, List.sum_cons, List.length_cons] at *
    omega
end Go.Proofs.Ytgccnkihonmlbaa
