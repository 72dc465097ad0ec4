/- Plain facts behind the laws of kids, paths and removals of trees. -/
import Derived.Test.YtgccnkihonmlbaaTo
namespace Go.Proofs.Ytgccnkihonmlbaa
open Go Go.RowKit
set_option linter.unusedSimpArgs false
set_option linter.unusedVariables false

theorem par_id {l : List Nd} {j : Nat} (hj : j < l.length) (h : 0 ≤ pix l j) : (nat l (pix l j).toNat).id = (nat l j).par := by
  have h2 := idx_id (l := l.take j) (x := (nat l j).par) h
  have hlt := pix_lt l j
  have e : pix l j = idx (l.take j) (nat l j).par := rfl
  rw [← e, nat_take (by omega)] at h2
  exact h2
/-! ### Paths -/
theorem path_cur {l : List Nd} {i k : Nat} (h : k ≤ (chn l i).length) : iat (pathL l i) k = (nat l (cur l i ((chn l i).length - k))).id := by
  have e : (upL l i).reverse[k]? = some (nat l (cur l i ((chn l i).length - k))).id := by
    rw [List.getElem?_reverse (by rw [upL_len]; omega), upL_len]
    have e2 : (chn l i).length + 1 - 1 - k = (chn l i).length - k := by omega
    rw [e2]
    unfold upL cur
    rw [List.getElem?_map, List.getD_eq_getElem?_getD, List.getElem?_eq_getElem (by simp; omega)]
    rfl
  unfold iat pathL
  rw [List.getD_eq_getElem?_getD, e]
  rfl
theorem path_par {l : List Nd} {i k : Nat} (hT : Tree l) (hi : i < l.length) (h1 : 1 ≤ k) (h : k ≤ (chn l i).length) : (nat l (cur l i ((chn l i).length - k))).par = iat (pathL l i) (k - 1) := by
  have h2 := cur_step (l := l) (i := i) (j := (chn l i).length - k) (by omega)
  have hle := (cur_pix (l := l) (i := i) (j := (chn l i).length - k) (by omega)).2
  rw [path_cur (by omega), ← par_id (by omega) (by omega), h2, Int.toNat_natCast]
  congr 4
  omega
theorem path_len1 (l : List Nd) (i : Nat) : (pathL l i).length = (chn l i).length + 1 := by unfold pathL; rw [List.length_reverse, upL_len]
/-! ### Kids -/
def kix (l : List Nd) (m : Nat) : List Nat := (List.range l.length).filter fun j => decide (pix l j = m)
def kat (l : List Nd) (m k : Nat) : Nat := (kix l m).getD k 0
def lst (l : List Nd) (m k : Nat) : Nat := if k = 0 then 0 else kat l m (k - 1)
theorem nats (l : List Nd) : (List.range l.length).map (nat l) = l := by
  apply List.ext_getElem (by simp)
  intro j h1 h2
  simp [nat, List.getD_eq_getElem?_getD]
  rw [List.getElem?_eq_getElem h2]; rfl
theorem par_pix {l : List Nd} (hT : Tree l) {j m : Nat} (hj : j < l.length) (hm : m < l.length) : (nat l j).par = (nat l m).id ↔ pix l j = m := by
  constructor
  · intro h
    rw [← up_pix hT hj, h, idx_self hT hm]
  · intro h
    rw [← par_id hj (by omega), h, Int.toNat_natCast]
theorem kids_kix {l : List Nd} (hT : Tree l) {m : Nat} (hm : m < l.length) : kidsL l (nat l m).id = (kix l m).map fun j => (nat l j).id := by
  have e : l.filter (fun n => decide (n.par = (nat l m).id)) = (kix l m).map (nat l) := by
    have h0 : l.filter (fun n => decide (n.par = (nat l m).id)) = ((List.range l.length).map (nat l)).filter fun n => decide (n.par = (nat l m).id) := by rw [nats]
    rw [h0, List.filter_map]
    unfold kix
    congr 1
    apply List.filter_congr
    intro j hj
    have hj' := List.mem_range.1 hj
    simp only [Function.comp]
    exact decide_eq_decide.2 (par_pix hT hj' hm)
  unfold kidsL
  rw [e, List.map_map]
  rfl
theorem kids_len {l : List Nd} (hT : Tree l) {m : Nat} (hm : m < l.length) : (kidsL l (nat l m).id).length = (kix l m).length := by rw [kids_kix hT hm, List.length_map]
theorem kids_at {l : List Nd} (hT : Tree l) {m k : Nat} (hm : m < l.length) (hk : k < (kix l m).length) : iat (kidsL l (nat l m).id) k = (nat l (kat l m k)).id := by
  rw [kids_kix hT hm]
  unfold iat kat
  simp [List.getD_eq_getElem?_getD, hk]
theorem kat_mem {l : List Nd} {m k : Nat} (hk : k < (kix l m).length) : kat l m k ∈ kix l m := by
  unfold kat
  rw [List.getD_eq_getElem?_getD, List.getElem?_eq_getElem hk]
  exact List.getElem_mem hk
theorem kat_spec {l : List Nd} {m k : Nat} (hk : k < (kix l m).length) : kat l m k < l.length ∧ pix l (kat l m k) = m ∧ lst l m k < kat l m k := by
  have hm := kat_mem hk
  obtain ⟨h1, h2⟩ := List.mem_filter.1 hm
  have h1 := List.mem_range.1 h1
  have h2 : pix l (kat l m k) = m := by simpa using h2
  refine ⟨h1, h2, ?_⟩
  unfold lst
  split
  · have := pix_lt l (kat l m k); omega
  · have hp : (kix l m).Pairwise (· < ·) := List.Pairwise.filter _ List.pairwise_lt_range
    have h3 := List.pairwise_iff_getElem.1 hp (k - 1) k (by omega) hk (by omega)
    unfold kat
    rw [List.getD_eq_getElem?_getD, List.getD_eq_getElem?_getD, List.getElem?_eq_getElem hk, List.getElem?_eq_getElem (show k - 1 < _ by omega)]
    exact h3
def cnt (l : List Nd) (m : Nat) : Nat := ((List.range l.length).filter fun j => decide (0 ≤ pix l j ∧ pix l j < m)).length
theorem filter_or {α : Type} (p q : α → Bool) : ∀ xs : List α, (∀ x ∈ xs, ¬ (p x = true ∧ q x = true)) → (xs.filter fun x => p x || q x).length = (xs.filter p).length + (xs.filter q).length
  | [], _ => rfl
  | x :: xs, h => by
    have ih := filter_or p q xs fun y hy => h y (List.mem_cons_of_mem _ hy)
    have hx := h x (by simp)
    cases hp : p x <;> cases hq : q x <;> simp_all <;> omega
theorem cnt_succ (l : List Nd) (m : Nat) : cnt l (m + 1) = cnt l m + (kix l m).length := by
  unfold cnt kix
  rw [← filter_or]
  · congr 1
    apply List.filter_congr
    intro j _
    rw [Bool.eq_iff_iff]
    simp only [decide_eq_true_eq, Bool.or_eq_true]
    omega
  · intro j _
    simp only [decide_eq_true_eq]
    omega
theorem cnt_zero (l : List Nd) : cnt l 0 = 0 := by
  unfold cnt
  rw [List.length_eq_zero_iff, List.filter_eq_nil_iff]
  intro j _
  simp only [decide_eq_true_eq]
  omega
theorem cnt_all {l : List Nd} (hT : Tree l) : cnt l l.length + 1 = l.length := by
  unfold cnt
  have h1 := hT.len.1
  obtain ⟨n, hn⟩ : ∃ n, l.length = n + 1 := ⟨l.length - 1, by omega⟩
  have e : (List.range l.length).filter (fun j => decide (0 ≤ pix l j ∧ pix l j < (l.length : Nat))) = (List.range n).map (· + 1) := by
    rw [hn, List.range_succ_eq_map, List.filter_cons, pix_zero]
    rw [if_neg (by simp)]
    rw [List.filter_eq_self.2]
    intro j hj
    obtain ⟨q, hq, rfl⟩ := List.mem_map.1 hj
    have hq' := List.mem_range.1 hq
    have h2 := (hT.up (q + 1) (by omega) (by omega)).1
    have h3 := pix_lt l (q + 1)
    simp only [Nat.succ_eq_add_one, decide_eq_true_eq]
    omega
  rw [e, List.length_map, List.length_range, hn]
theorem cnt_le (l : List Nd) (m : Nat) : cnt l m ≤ l.length := by
  unfold cnt
  have := List.length_filter_le (fun j => decide (0 ≤ pix l j ∧ pix l j < (m : Int))) (List.range l.length)
  simpa using this
/-! ### Some of a tree's nodes -/
section
variable {l : List Nd} {ks : List Nat}
def sub (l : List Nd) (ks : List Nat) : List Nd := ks.map (nat l)
theorem sub_at {a : Nat} (h : a < ks.length) : nat (sub l ks) a = nat l (ks.getD a 0) := by
  unfold sub nat
  simp [List.getD_eq_getElem?_getD, h]
theorem sub_len : (sub l ks).length = ks.length := by simp [sub]
theorem ks_lt (hs : ks.Pairwise (· < ·)) {a b : Nat} (hab : a < b) (hb : b < ks.length) : ks.getD a 0 < ks.getD b 0 := by
  rw [List.getD_eq_getElem?_getD, List.getD_eq_getElem?_getD, List.getElem?_eq_getElem hb, List.getElem?_eq_getElem (show a < _ by omega)]
  exact List.pairwise_iff_getElem.1 hs a b (by omega) hb hab
theorem ks_in {a : Nat} (h : a < ks.length) : ks.getD a 0 ∈ ks := by
  rw [List.getD_eq_getElem?_getD, List.getElem?_eq_getElem h]
  exact List.getElem_mem h
theorem id_inj (hT : Tree l) {i j : Nat} (hi : i < l.length) (hj : j < l.length) (h : (nat l i).id = (nat l j).id) : i = j := by
  have h1 := idx_self hT hi
  have h2 := idx_self hT hj
  rw [h] at h1
  omega
theorem sub_pix (hT : Tree l) (hs : ks.Pairwise (· < ·)) (hlt : ∀ k ∈ ks, k < l.length) (hc : ∀ k ∈ ks, 0 ≤ pix l k → (pix l k).toNat ∈ ks) {a : Nat} (ha : a < ks.length) :
    (pix l (ks.getD a 0) < 0 → pix (sub l ks) a = -1) ∧ (0 ≤ pix l (ks.getD a 0) → ∃ b, b < a ∧ pix (sub l ks) a = b ∧ ks.getD b 0 = (pix l (ks.getD a 0)).toNat) := by
  have hka := hlt _ (ks_in ha)
  have e : pix (sub l ks) a = idx ((sub l ks).take a) (nat l (ks.getD a 0)).par := by unfold pix; rw [sub_at ha]
  have htl : ((sub l ks).take a).length = a := by rw [List.length_take, sub_len]; omega
  have htn : ∀ b, b < a → nat ((sub l ks).take a) b = nat l (ks.getD b 0) := fun b hb => by rw [nat_take hb, sub_at (by omega)]
  constructor
  · intro h
    rw [e]
    refine idx_no fun b hb => ?_
    rw [htl] at hb
    rw [htn b hb]
    intro hid
    have hkb := hlt _ (ks_in (show b < ks.length by omega))
    have := (par_pix hT hka hkb).1 hid.symm
    omega
  · intro h
    obtain ⟨b, hb, hbe⟩ := List.getElem_of_mem (hc _ (ks_in ha) h)
    have hbd : ks.getD b 0 = (pix l (ks.getD a 0)).toNat := by rw [List.getD_eq_getElem?_getD, List.getElem?_eq_getElem hb]; exact hbe
    have hba : b < a := by
      rcases Nat.lt_trichotomy b a with h1 | h1 | h1
      · exact h1
      · exfalso; have := pix_lt l (ks.getD a 0); rw [h1] at hbd; omega
      · exfalso; have := ks_lt hs h1 hb; have := pix_lt l (ks.getD a 0); omega
    refine ⟨b, hba, ?_, hbd⟩
    rw [e]
    have hkb := hlt _ (ks_in hb)
    refine idx_is (by omega) ?_ fun q hq => ?_
    · rw [htn b hba, hbd, par_id hka h]
    · rw [htn q (by omega)]
      intro hid
      have hkq := hlt _ (ks_in (show q < ks.length by omega))
      have h1 := (par_pix hT hka hkq).1 hid.symm
      have := ks_lt hs hq hb
      omega
theorem sub_dpt (hT : Tree l) (hs : ks.Pairwise (· < ·)) (hlt : ∀ k ∈ ks, k < l.length) (hc : ∀ k ∈ ks, 0 ≤ pix l k → (pix l k).toNat ∈ ks) : ∀ {a : Nat}, a < ks.length → dpt (sub l ks) a = dpt l (ks.getD a 0) := by
  intro a
  induction a using Nat.strongRecOn with
  | ind a ih =>
    intro ha
    obtain ⟨h1, h2⟩ := sub_pix hT hs hlt hc ha
    rw [dpt_eq, dpt_eq l]
    by_cases h : 0 ≤ pix l (ks.getD a 0)
    · obtain ⟨b, hb, he, hk⟩ := h2 h
      rw [if_pos h, if_pos (by omega), he, Int.toNat_natCast, ih b hb (by omega), hk]
    · rw [if_neg h, if_neg (by rw [h1 (by omega)]; omega)]
theorem sub_tree (hT : Tree l) (hs : ks.Pairwise (· < ·)) (hlt : ∀ k ∈ ks, k < l.length) (hc : ∀ k ∈ ks, 0 ≤ pix l k → (pix l k).toNat ∈ ks) (h0 : ks.head? = some 0) : Tree (sub l ks) := by
  have hlen : 1 ≤ ks.length := by cases ks <;> simp at h0 ⊢
  have hk0 : ks.getD 0 0 = 0 := by cases ks with
    | nil => rfl
    | cons a t => simp at h0; simp [h0]
  have hge : ∀ a, a < ks.length → a ≤ ks.getD a 0 := by
    intro a
    induction a with
    | zero => intro _; omega
    | succ a ih => intro h; have := ih (by omega); have := ks_lt hs (show a < a + 1 by omega) h; omega
  have hle : ks.length ≤ l.length := by
    have h1 := hge (ks.length - 1) (by omega)
    have h2 := hlt _ (ks_in (show ks.length - 1 < ks.length by omega))
    omega
  have hl := hT.len
  refine ⟨by rw [sub_len]; omega, ?_, fun a ha => ?_, fun a ha => ?_, fun a h0a ha => ?_, fun a ha => ?_⟩
  · rw [sub_at (by omega), hk0]; exact hT.root
  · rw [sub_len] at ha
    rw [sub_at ha]
    exact hT.form _ (hlt _ (ks_in ha))
  · rw [sub_len] at ha
    refine idx_no fun b hb => ?_
    rw [List.length_take, sub_len] at hb
    rw [nat_take (by omega), sub_at (by omega), sub_at ha]
    intro h
    have h2 := id_inj hT (hlt _ (ks_in (show b < ks.length by omega))) (hlt _ (ks_in ha)) h
    have := ks_lt hs (show b < a by omega) ha
    omega
  · rw [sub_len] at ha
    have hpos : 0 < ks.getD a 0 := by
      have := ks_lt hs h0a ha
      omega
    obtain ⟨h1, h2⟩ := hT.up _ hpos (hlt _ (ks_in ha))
    obtain ⟨b, hb, he, hk⟩ := (sub_pix hT hs hlt hc ha).2 h1
    refine ⟨by omega, ?_⟩
    rw [he, Int.toNat_natCast, sub_at ha, sub_at (by omega), hk]
    exact h2
  · rw [sub_len] at ha
    rw [sub_dpt hT hs hlt hc ha]
    exact hT.deep _ (hlt _ (ks_in ha))
end
theorem stL_tree {l : List Nd} (hT : Tree l) {i : Nat} (hi : i < l.length) (h0 : 0 < i) : Tree (stL l (nat l i).id l.length) := by
  refine sub_tree (ks := (List.range l.length).filter fun j => !goB l (nat l i).id j) hT (List.Pairwise.filter _ List.pairwise_lt_range) (fun k hk => List.mem_range.1 (List.mem_filter.1 hk).1) (fun k hk hp => ?_) ?_
  · obtain ⟨h1, h2⟩ := List.mem_filter.1 hk
    have h1 := List.mem_range.1 h1
    have hlt := pix_lt l k
    refine List.mem_filter.2 ⟨List.mem_range.2 (by omega), ?_⟩
    have h3 : goB l (nat l i).id k = false := by simpa using h2
    rw [goB_eq] at h3
    simp only [Bool.or_eq_false_iff, hp, decide_true, Bool.true_and] at h3
    rw [h3.2]; rfl
  · have hl := hT.len.1
    obtain ⟨n, hn⟩ : ∃ n, l.length = n + 1 := ⟨l.length - 1, by omega⟩
    rw [hn, List.range_succ_eq_map, List.filter_cons, if_pos (by rw [go_early hT hi h0]; rfl)]
    rfl
theorem stL_less {l : List Nd} {i : Nat} (hi : i < l.length) (hT : Tree l) : (stL l (nat l i).id l.length).length < l.length := by
  have h1 := go_st_len l (nat l i).id l.length
  obtain ⟨t, ht⟩ := goL_head hT hi l.length hi (Nat.le_refl _)
  rw [ht] at h1
  simp at h1
  omega
end Go.Proofs.Ytgccnkihonmlbaa
