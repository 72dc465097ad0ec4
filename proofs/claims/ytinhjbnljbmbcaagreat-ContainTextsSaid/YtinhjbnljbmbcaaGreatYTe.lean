/- Plain facts behind the law of paths of selectors: the nodes of a path are a tree. -/
import Derived.Test.YtinhjbnljbmbcaaGreatY11
namespace Go.Proofs.YtinhjbnljbmbcaaGreat
open Go Go.RowKit
set_option linter.unusedSimpArgs false
set_option linter.unusedVariables false
theorem filter_desc : ∀ (n : Nat) (c : List Nat), c.Pairwise (· > ·) → (∀ x ∈ c, x < n) → (List.range n).filter (fun k => decide (k ∈ c)) = c.reverse
 | 0, c, _, h => by
  cases c with
  | nil => rfl
  | cons a c => have := h a (by simp); omega
 | n + 1, c, hp, h => by
  rw [List.range_succ, List.filter_append]
  cases c with
  | nil => simp
  | cons a t =>
   have hp' := List.pairwise_cons.1 hp
   by_cases hn : a = n
   ·subst hn
    have e : (List.range a).filter (fun k => decide (k ∈ a :: t)) = (List.range a).filter (fun k => decide (k ∈ t)) := by
     apply List.filter_congr
     intro k hk
     have := List.mem_range.1 hk
     have hne : k ≠ a := by omega
     simp [hne]
    rw [e, filter_desc a t hp'.2 (fun x hx => hp'.1 x hx)]
    simp
   ·have h2 : ∀ x ∈ a :: t, x < n := by
     intro x hx
     have hx1 := h x hx
     have ha := h a (by simp)
     rcases List.mem_cons.1 hx with rfl | hx
     ·omega
     ·have := hp'.1 x hx; omega
    have hnn : n ∉ a :: t := fun hm => by have := h2 n hm; omega
    rw [filter_desc n (a :: t) hp h2]
    simp only [List.mem_cons, not_or] at hnn
    simp [hnn.1, hnn.2]
theorem chn_desc (l : List Nd) : ∀ i, (i :: chn l i).Pairwise (· > ·) := by
 intro i
 induction i using Nat.strongRecOn with
 | ind i ih =>
  have hlt := pix_lt l i
  rw [chn_eq]
  split
  ·have h := ih (pix l i).toNat (by omega)
   refine List.pairwise_cons.2 ⟨fun x hx => ?_, h⟩
   rcases List.mem_cons.1 hx with rfl | hx
   ·omega
   ·have := (List.pairwise_cons.1 h).1 x hx; omega
  ·simp
theorem cur_step {l : List Nd} {i j : Nat} (h : j < (chn l i).length) : pix l (cur l i j) = cur l i (j + 1) := by
 have e : (chn l i)[j]? = some (chn l i)[j] := List.getElem?_eq_getElem h
 rw [(cur_pix (Nat.le_of_lt h)).1, cur_succ e]
 simp [upc, e]
theorem cur_last {l : List Nd} (hT : Tree l) {i : Nat} (hi : i < l.length) : cur l i (chn l i).length = 0 := by
 obtain ⟨h1, h2⟩ := cur_pix (l := l) (i := i) (j := (chn l i).length) (Nat.le_refl _)
 have h3 : upc (chn l i) (chn l i).length = -1 := by simp [upc]
 by_cases h0 : 0 < cur l i (chn l i).length
 ·have := (hT.up _ h0 (by omega)).1
  omega
 ·omega
theorem cur_inj {l : List Nd} {i a b : Nat} (ha : a < b) (hb : b ≤ (chn l i).length) : cur l i b < cur l i a := by
 have h := List.pairwise_iff_getElem.1 (chn_desc l i) a b (by simp; omega) (by simp; omega) ha
 have e : ∀ k (hk : k < (i :: chn l i).length), (i :: chn l i)[k] = cur l i k := fun k hk => by
  unfold cur; rw [List.getD_eq_getElem?_getD, List.getElem?_eq_getElem hk]; rfl
 rw [e, e] at h
 exact h
/-- The nodes of a path, the root's first. -/
def ptT (l : List Nd) (i : Nat) : List Nd := ((i :: chn l i).reverse).map (nat l)
theorem ptT_len (l : List Nd) (i : Nat) : (ptT l i).length = (chn l i).length + 1 := by simp [ptT]
theorem ptT_at {l : List Nd} {i q : Nat} (h : q ≤ (chn l i).length) : nat (ptT l i) q = nat l (cur l i ((chn l i).length - q)) := by
 have e : (i :: chn l i).reverse[q]? = some (cur l i ((chn l i).length - q)) := by
  rw [List.getElem?_reverse (by simp; omega)]
  have e2 : (i :: chn l i).length - 1 - q = (chn l i).length - q := by simp
  rw [e2, List.getElem?_eq_getElem (by simp; omega)]
  unfold cur
  rw [List.getD_eq_getElem?_getD, List.getElem?_eq_getElem (by simp; omega)]
  rfl
 unfold ptT
 rw [nat, List.getD_eq_getElem?_getD, List.getElem?_map, e]
 rfl
theorem ptT_ids {l : List Nd} (hT : Tree l) {i a b : Nat} (hi : i < l.length) (ha : a < b) (hb : b ≤ (chn l i).length) : (nat (ptT l i) a).id ≠ (nat (ptT l i) b).id := by
 intro h
 rw [ptT_at (by omega), ptT_at hb] at h
 have h1 := cur_inj (l := l) (i := i) (a := (chn l i).length - b) (b := (chn l i).length - a) (by omega) (by omega)
 have h2 := (cur_pix (l := l) (i := i) (j := (chn l i).length - b) (by omega)).2
 have e1 := idx_self hT (i := cur l i ((chn l i).length - a)) (by omega)
 have e2 := idx_self hT (i := cur l i ((chn l i).length - b)) (by omega)
 rw [h] at e1
 omega
theorem ptT_pix {l : List Nd} (hT : Tree l) {i q : Nat} (hi : i < l.length) (hq : q + 1 ≤ (chn l i).length) : pix (ptT l i) (q + 1) = q := by
 unfold pix
 have hl := ptT_len l i
 have hm := (cur_pix (l := l) (i := i) (j := (chn l i).length - (q + 1)) (by omega)).2
 have hm2 := (cur_pix (l := l) (i := i) (j := (chn l i).length - q) (by omega)).2
 have hup := up_pix hT (show cur l i ((chn l i).length - (q + 1)) < l.length by omega)
 rw [cur_step (by omega), show (chn l i).length - (q + 1) + 1 = (chn l i).length - q by omega] at hup
 have hpar : (nat (ptT l i) (q + 1)).par = (nat (ptT l i) q).id := by
  rw [ptT_at hq, ptT_at (by omega)]
  rcases idx_cases l (nat l (cur l i ((chn l i).length - (q + 1)))).par with ⟨y, hy, h1, _, h3⟩ | ⟨_, h3⟩
  ·have : y = cur l i ((chn l i).length - q) := by omega
   rw [← this, h1]
  ·omega
 rw [hpar]
 refine idx_is (by rw [List.length_take]; omega) (by rw [nat_take (by omega)]) fun j hj => ?_
 rw [nat_take (by omega)]
 exact ptT_ids hT hi hj (by omega)
theorem ptT_dpt {l : List Nd} (hT : Tree l) {i : Nat} (hi : i < l.length) : ∀ q, q ≤ (chn l i).length → dpt (ptT l i) q = q + 1
 | 0, _ => by rw [dpt_zero]; rfl
 | q + 1, h => by
  rw [dpt_eq, ptT_pix hT hi h, if_pos (by omega), Int.toNat_natCast, ptT_dpt hT hi q (by omega)]
  omega
theorem ptT_tree {l : List Nd} (hT : Tree l) {i : Nat} (hi : i < l.length) : Tree (ptT l i) := by
 have hl := ptT_len l i
 have hc := chn_len l i
 have hd := hT.deep i hi
 have hcl : ∀ q, q ≤ (chn l i).length → cur l i q < l.length := fun q hq => by have := (cur_pix (l := l) (i := i) hq).2; omega
 refine ⟨by omega, ?_, fun q hq => ?_, fun q hq => ?_, fun q h0 hq => ?_, fun q hq => ?_⟩
 ·rw [ptT_at (Nat.zero_le _), Nat.sub_zero, cur_last hT hi]; exact hT.root
 ·rw [ptT_at (by omega)]; exact hT.form _ (hcl _ (by omega))
 ·refine idx_no fun j hj => ?_
  rw [List.length_take] at hj
  rw [nat_take (by omega)]
  exact ptT_ids hT hi (by omega) (by omega)
 ·obtain ⟨p, rfl⟩ : ∃ p, q = p + 1 := ⟨q - 1, by omega⟩
  have hpx := ptT_pix hT hi (q := p) (by omega)
  refine ⟨by omega, ?_⟩
  rw [hpx, Int.toNat_natCast, ptT_at (by omega), ptT_at (by omega)]
  have hc0 : 0 < cur l i ((chn l i).length - (p + 1)) := by
   have := cur_inj (l := l) (i := i) (a := (chn l i).length - (p + 1)) (b := (chn l i).length - p) (by omega) (by omega)
   omega
  have := (hT.up _ hc0 (hcl _ (by omega))).2
  rw [cur_step (by omega), Int.toNat_natCast, show (chn l i).length - (p + 1) + 1 = (chn l i).length - p by omega] at this
  exact this
 ·rw [ptT_dpt hT hi q (by omega)]; omega
theorem ptT_chn {l : List Nd} (hT : Tree l) {i : Nat} (hi : i < l.length) : ∀ q, q ≤ (chn l i).length → chn l (cur l i ((chn l i).length - q)) = (chn (ptT l i) q).map fun x => cur l i ((chn l i).length - x)
 | 0, _ => by
  have e : ∀ m : List Nd, chn m 0 = [] := fun m => by rw [chn_eq, pix_zero]; rfl
  rw [Nat.sub_zero, cur_last hT hi, e, e]; rfl
 | q + 1, h => by
  have ih := ptT_chn hT hi q (by omega)
  rw [chn_eq (ptT l i), ptT_pix hT hi h, if_pos (by omega), Int.toNat_natCast, List.map_cons, ← ih, chn_eq l, cur_step (by omega), show (chn l i).length - (q + 1) + 1 = (chn l i).length - q by omega, if_pos (by omega), Int.toNat_natCast]
theorem ptT_mt {l : List Nd} (hT : Tree l) {ts : List Ts} {i : Nat} (hi : i < l.length) : ∀ (k q : Nat), q ≤ (chn l i).length → mtB (ptT l i) ts k q = mtB l ts k (cur l i ((chn l i).length - q))
 | 0, _, _ => rfl
 | k + 1, q, hq => by
  simp only [mtB]
  rw [ptT_at hq, ptT_chn hT hi q hq]
  congr 2
  have hx : ∀ x ∈ chn (ptT l i) q, mtB (ptT l i) ts k x = mtB l ts k (cur l i ((chn l i).length - x)) := fun x hx => by
   obtain ⟨r, hr, e⟩ := List.mem_iff_getElem.1 hx
   have := (chn_step (ptT l i) q (j := r) (x := x) (by rw [← e]; exact List.getElem?_eq_getElem hr)).2
   exact ptT_mt hT hi k x (by omega)
  split
  ·rw [← List.map_take, List.any_map]
   rw [Bool.eq_iff_iff, List.any_eq_true, List.any_eq_true]
   exact ⟨fun ⟨x, h1, h2⟩ => ⟨x, h1, by rw [Function.comp, ← hx x (List.mem_of_mem_take h1)]; exact h2⟩, fun ⟨x, h1, h2⟩ => ⟨x, h1, by rw [hx x (List.mem_of_mem_take h1)]; exact h2⟩⟩
  ·rw [List.any_map]
   rw [Bool.eq_iff_iff, List.any_eq_true, List.any_eq_true]
   exact ⟨fun ⟨x, h1, h2⟩ => ⟨x, h1, by rw [Function.comp, ← hx x h1]; exact h2⟩, fun ⟨x, h1, h2⟩ => ⟨x, h1, by rw [hx x h1]; exact h2⟩⟩
/-- Of the first n nodes those whose numbers the path has. -/
def alo (l : List Nd) (i n : Nat) : List Nd := ((List.range n).filter fun k => iin (pathL l i) (nat l k).id).map (nat l)
theorem alo_succ (l : List Nd) (i n : Nat) : alo l i (n + 1) = if iin (pathL l i) (nat l n).id = true then alo l i n ++ [nat l n] else alo l i n := by
 unfold alo
 rw [List.range_succ, List.filter_append]
 cases h : iin (pathL l i) (nat l n).id <;> simp [h]
theorem alo_len (l : List Nd) (i n : Nat) : (alo l i n).length ≤ n := by
 unfold alo
 rw [List.length_map]
 exact Nat.le_trans (List.length_filter_le ..) (by simp)
theorem alo_all {l : List Nd} (hT : Tree l) {i : Nat} (hi : i < l.length) : alo l i l.length = ptT l i := by
 have hlt : ∀ x ∈ i :: chn l i, x < l.length := fun x hx => by
  rcases List.mem_cons.1 hx with rfl | hx
  ·exact hi
  ·have := (List.pairwise_cons.1 (chn_desc l i)).1 x hx; omega
 unfold alo ptT
 rw [← filter_desc l.length (i :: chn l i) (chn_desc l i) hlt]
 congr 1
 apply List.filter_congr
 intro k hk
 have hkl := List.mem_range.1 hk
 unfold iin pathL upL
 rw [decide_eq_decide, List.mem_reverse]
 constructor
 ·intro h
  obtain ⟨x, hx, e⟩ := List.mem_map.1 h
  have e1 := idx_self hT hkl
  have e2 := idx_self hT (hlt x hx)
  rw [e] at e2
  have : x = k := by omega
  rw [← this]; exact hx
 ·intro h
  exact List.mem_map.2 ⟨k, h, rfl⟩
end Go.Proofs.YtinhjbnljbmbcaaGreat
