/- Plain facts behind the laws of further nodes, and of nodes that stand elsewhere. -/
import Derived.Test.YtgccnkihonmlbaaTv
namespace Go.Proofs.Ytgccnkihonmlbaa
open Go Go.RowKit
set_option linter.unusedSimpArgs false
set_option linter.unusedVariables false

/-! ### Children, without one node -/
def oth (l : List Nd) (x : Int) : List Nd := l.filter fun n => decide (n.id ≠ x)
def chF (l : List Nd) : List (Int × List Int) := l.foldl (fun a n => addK n.par n.id a) []
theorem take_nat {l : List Nd} {n : Nat} (h : n < l.length) : l.take (n + 1) = l.take n ++ [nat l n] := by
  rw [List.take_add_one, List.getElem?_eq_getElem h]
  unfold nat
  rw [List.getD_eq_getElem?_getD, List.getElem?_eq_getElem h]
  rfl
theorem chM_F (l : List Nd) (x : Int) : ∀ n, n ≤ l.length → chM l x n = chF (oth (l.take n) x)
  | 0, _ => rfl
  | n + 1, h => by
    rw [take_nat (by omega), chM, chM_F l x n (by omega)]
    unfold oth
    rw [List.filter_append]
    by_cases hx : (nat l n).id = x
    · rw [if_pos hx]; simp [hx]
    · rw [if_neg hx]
      unfold chF
      simp [hx, List.foldl_append]
theorem chA_F (l : List Nd) (x : Int) : chA l x = chF (oth l x) := by
  unfold chA
  rw [chM_F l x _ (Nat.le_refl _), List.take_length]
theorem addK_vlk (k v y : Int) : ∀ a, vlk (addK k v a) y = if y = k then vlk a k ++ [v] else vlk a y
  | [] => by
    unfold vlk addK
    by_cases h : y = k
    · simp [h]
    · simp [h]
  | e :: a => by
    have ih := addK_vlk k v y a
    unfold addK
    by_cases hk : k = e.1
    · rw [if_pos hk]
      by_cases hy : y = k
      · subst hy; simp [vlk, hk]
      · have hye : ¬ y = e.1 := fun h => hy (h.trans hk.symm)
        simp [vlk, hy, hye]
    · rw [if_neg hk]
      by_cases hye : y = e.1
      · have hy : ¬ y = k := fun h => hk (h.symm.trans hye)
        rw [if_neg hy]
        simp [vlk, hye]
      · have e1 : ∀ b, vlk (e :: b) y = vlk b y := fun b => by simp [vlk, hye]
        have e2 : vlk (e :: a) k = vlk a k := by simp [vlk, hk]
        rw [e1, e1, e2, ih]
theorem kidsL_cons (n : Nd) (l : List Nd) (y : Int) : kidsL (n :: l) y = if n.par = y then n.id :: kidsL l y else kidsL l y := by
  unfold kidsL
  by_cases h : n.par = y <;> simp [h]
theorem kidsL_append (a b : List Nd) (y : Int) : kidsL (a ++ b) y = kidsL a y ++ kidsL b y := by
  unfold kidsL
  rw [List.filter_append, List.map_append]
theorem fold_vlk (y : Int) : ∀ (l : List Nd) (a : List (Int × List Int)), vlk (l.foldl (fun a n => addK n.par n.id a) a) y = vlk a y ++ kidsL l y
  | [], a => by simp [kidsL]
  | n :: l, a => by
    rw [List.foldl_cons, fold_vlk y l, addK_vlk, kidsL_cons]
    by_cases h : n.par = y
    · rw [if_pos h.symm, if_pos h, h]; simp
    · rw [if_neg (fun e => h e.symm), if_neg h]
theorem chF_vlk (l : List Nd) (y : Int) : vlk (chF l) y = kidsL l y := by
  unfold chF
  rw [fold_vlk]
  rfl
theorem addK_keys (k v y : Int) : ∀ a, y ∈ (addK k v a).map Prod.fst ↔ y = k ∨ y ∈ a.map Prod.fst
  | [] => by simp [addK]
  | e :: a => by
    have ih := addK_keys k v y a
    unfold addK
    split
    · rename_i h
      simp only [List.map_cons, List.mem_cons]
      rw [h]
      constructor
      · exact .inr
      · rintro (h1 | h1)
        · exact .inl h1
        · exact h1
    · simp only [List.map_cons, List.mem_cons, ih]
      constructor
      · rintro (h1 | h1 | h1)
        · exact .inr (.inl h1)
        · exact .inl h1
        · exact .inr (.inr h1)
      · rintro (h1 | h1 | h1)
        · exact .inr (.inl h1)
        · exact .inl h1
        · exact .inr (.inr h1)
theorem addK_nodup (k v : Int) : ∀ a, (a.map Prod.fst).Nodup → ((addK k v a).map Prod.fst).Nodup
  | [], _ => by simp [addK]
  | e :: a, h => by
    simp only [List.map_cons, List.nodup_cons] at h
    have ih := addK_nodup k v a h.2
    unfold addK
    split
    · rename_i hk
      simp only [List.map_cons, List.nodup_cons]; rw [hk]; exact h
    · rename_i hk
      simp only [List.map_cons, List.nodup_cons]
      refine ⟨fun hm => ?_, ih⟩
      rcases (addK_keys k v e.1 a).1 hm with h1 | h1
      · exact hk h1.symm
      · exact h.1 h1
theorem fold_keys (y : Int) : ∀ (l : List Nd) (a : List (Int × List Int)), y ∈ (l.foldl (fun a n => addK n.par n.id a) a).map Prod.fst ↔ y ∈ a.map Prod.fst ∨ kidsL l y ≠ []
  | [], a => by simp [kidsL]
  | n :: l, a => by
    rw [List.foldl_cons, fold_keys y l, addK_keys, kidsL_cons]
    by_cases h : n.par = y
    · rw [if_pos h]; simp [h]
    · rw [if_neg h]
      have : ¬ y = n.par := fun e => h e.symm
      simp [this]
theorem fold_nodup : ∀ (l : List Nd) (a : List (Int × List Int)), (a.map Prod.fst).Nodup → ((l.foldl (fun a n => addK n.par n.id a) a).map Prod.fst).Nodup
  | [], a, h => h
  | n :: l, a, h => by rw [List.foldl_cons]; exact fold_nodup l _ (addK_nodup _ _ a h)
theorem vlk_self : ∀ {a : List (Int × List Int)}, (a.map Prod.fst).Nodup → ∀ e ∈ a, e.2 = vlk a e.1
  | [], _, e, h => by simp at h
  | x :: a, hn, e, h => by
    simp only [List.map_cons, List.nodup_cons] at hn
    rcases List.mem_cons.1 h with rfl | h
    · simp [vlk]
    · have hne : ¬ e.1 = x.1 := fun he => hn.1 (he ▸ List.mem_map_of_mem h)
      have := vlk_self hn.2 e h
      rw [this]
      simp [vlk, hne]
theorem nodup_len {α : Type} : ∀ {l l' : List α}, l.Nodup → (∀ x ∈ l, x ∈ l') → l.length ≤ l'.length
  | [], _, _, _ => by simp
  | x :: l, l', hn, h => by
    obtain ⟨s, t, rfl⟩ := List.append_of_mem (h x (by simp))
    rw [List.nodup_cons] at hn
    have := nodup_len (l' := s ++ t) hn.2 fun y hy => by
      have h1 := h y (List.mem_cons_of_mem _ hy)
      have hne : y ≠ x := fun e => hn.1 (e ▸ hy)
      simp only [List.mem_append, List.mem_cons] at h1 ⊢
      rcases h1 with h1 | h1 | h1
      · exact .inl h1
      · exact absurd h1 hne
      · exact .inr h1
    simp only [List.length_cons, List.length_append] at this ⊢
    omega
theorem alk_of {A B : List Nd} (h : ∀ y, kidsL A y = kidsL B y) : alkB (chF A) (chF B) = true := by
  have na : ((chF A).map Prod.fst).Nodup := fold_nodup A [] (by simp)
  have nb : ((chF B).map Prod.fst).Nodup := fold_nodup B [] (by simp)
  have ma : ∀ y, y ∈ (chF A).map Prod.fst ↔ kidsL A y ≠ [] := fun y => by unfold chF; rw [fold_keys]; simp
  have mb : ∀ y, y ∈ (chF B).map Prod.fst ↔ kidsL B y ≠ [] := fun y => by unfold chF; rw [fold_keys]; simp
  unfold alkB
  simp only [Bool.and_eq_true, decide_eq_true_eq]
  refine ⟨fun e he => ?_, ?_⟩
  · rw [vlk_self na e he, chF_vlk, chF_vlk, h]
  · have h1 := nodup_len na fun y hy => (mb y).2 (by rw [← h]; exact (ma y).1 hy)
    have h2 := nodup_len nb fun y hy => (ma y).2 (by rw [h]; exact (mb y).1 hy)
    simp only [List.length_map] at h1 h2
    omega

/-! ### A further node -/
theorem ins_ok {l : List Nd} {n : Nd} {b : Int} (h : insE l n b = 0) : Tree l ∧ (fmB n = true ∧ n.par ≠ 0) ∧ idx l n.id = -1 ∧ 0 ≤ idx l n.par ∧ ((b ≠ 0 → iin (kidsL l n.par) b = true) ∧ (b ≠ 0 → idB b = true)) ∧ stR n.kind (nat l (idx l n.par).toNat).kind = true ∧ l.length ≠ 4000 ∧ fd l n.par ≠ 30 := by
  unfold insE at h
  split at h
  · cases h
  rename_i ht
  split at h
  · cases h
  rename_i h1
  split at h
  · cases h
  rename_i h2
  split at h
  · cases h
  rename_i h3
  split at h
  · cases h
  rename_i h4
  split at h
  · cases h
  rename_i h5
  split at h
  · cases h
  rename_i h6
  have hT := treB_true.1 (by simpa using ht)
  have hg := idx_ge l n.id
  simp only [Bool.or_eq_true, Bool.and_eq_true, Bool.not_eq_true', decide_eq_true_eq, decide_eq_false_iff_not, not_or, not_and, Bool.not_eq_false] at h1 h2 h3 h4 h5 h6
  refine ⟨hT, ⟨h1.1.2, h1.2⟩, by omega, by omega, ⟨h4, h1.1.1⟩, h5, by omega, h6.2⟩
theorem nat_put {l : List Nd} {n : Nd} {k : Nat} (hk : k ≤ l.length) (j : Nat) : nat (l.take k ++ [n] ++ l.drop k) j = if j < k then nat l j else if j = k then n else nat l (j - 1) := by
  have hl : (l.take k).length = k := by rw [List.length_take]; omega
  unfold nat
  rw [List.append_assoc, List.getD_eq_getElem?_getD]
  by_cases h1 : j < k
  · rw [if_pos h1, List.getElem?_append_left (by omega), List.getElem?_take_of_lt h1, List.getD_eq_getElem?_getD]
  · rw [if_neg h1, List.getElem?_append_right (by omega), hl]
    by_cases h2 : j = k
    · rw [if_pos h2, h2]; simp
    · rw [if_neg h2, List.getElem?_append_right (by simp; omega), List.getElem?_drop, List.getD_eq_getElem?_getD]
      congr 2
      simp
      omega
/-- Where a place comes to lie. -/
def shf (k i : Nat) : Nat := if i < k then i else i + 1
theorem shf_lt {k i j : Nat} (hj : j < i) : shf k j < shf k i := by
  unfold shf; split <;> split <;> omega
theorem shf_len {l : List Nd} {k i : Nat} (hi : i < l.length) : shf k i < l.length + 1 := by
  unfold shf; split <;> omega
theorem put_oth (l : List Nd) (n : Nd) (k : Nat) : oth (l.take k ++ [n] ++ l.drop k) n.id = oth l n.id := by
  unfold oth
  rw [List.filter_append, List.filter_append]
  have : [n].filter (fun m => decide (m.id ≠ n.id)) = [] := by simp
  rw [this, List.append_nil, ← List.filter_append, List.take_append_drop]
structure PutOk (l : List Nd) (n : Nd) (k p : Nat) : Prop where
  tree : Tree l
  form : fmB n = true
  new : idx l n.id = -1
  kle : k ≤ l.length
  plt : p < k
  par : (nat l p).id = n.par
  stand : stR n.kind (nat l p).kind = true
  room : l.length < 4000
  deep : dpt l p < 30
section
variable {l : List Nd} {n : Nd} {k p : Nat} (h : PutOk l n k p)
include h
theorem put_len : (l.take k ++ [n] ++ l.drop k).length = l.length + 1 := by
  have := h.kle
  simp only [List.length_append, List.length_take, List.length_drop, List.length_singleton]; omega
theorem put_shf {i : Nat} : nat (l.take k ++ [n] ++ l.drop k) (shf k i) = nat l i := by
  rw [nat_put h.kle]
  unfold shf
  by_cases hi : i < k
  · rw [if_pos hi, if_pos hi]
  · rw [if_neg hi, if_neg (by omega), if_neg (by omega)]; rfl
theorem put_new : nat (l.take k ++ [n] ++ l.drop k) k = n := by
  rw [nat_put h.kle, if_neg (by omega), if_pos rfl]
theorem put_cases {j : Nat} (hj : j < l.length + 1) : j = k ∨ ∃ i, i < l.length ∧ j = shf k i := by
  have := h.kle
  by_cases h1 : j = k
  · exact .inl h1
  · right
    by_cases h2 : j < k
    · exact ⟨j, by omega, by unfold shf; rw [if_pos h2]⟩
    · exact ⟨j - 1, by omega, by unfold shf; rw [if_neg (by omega)]; omega⟩
theorem put_fresh {i : Nat} (hi : i < l.length) : (nat l i).id ≠ n.id := by
  intro e
  rcases idx_cases l n.id with ⟨j, _, _, _, h4⟩ | ⟨h2, _⟩
  · have := h.new; omega
  · exact h2 i hi e
theorem put_inj {a c : Nat} (ha : a < l.length + 1) (hc : c < l.length + 1) (he : (nat (l.take k ++ [n] ++ l.drop k) a).id = (nat (l.take k ++ [n] ++ l.drop k) c).id) : a = c := by
  rcases put_cases h ha with rfl | ⟨i, hi, rfl⟩ <;> rcases put_cases h hc with rfl | ⟨j, hj, rfl⟩
  · rfl
  · rw [put_new h, put_shf h] at he; exact absurd he.symm (put_fresh h hj)
  · rw [put_new h, put_shf h] at he; exact absurd he (put_fresh h hi)
  · rw [put_shf h, put_shf h] at he
    rw [id_inj h.tree hi hj he]
theorem put_pix {i j : Nat} (hj : j < i) (hi : i < l.length + 1) (he : (nat (l.take k ++ [n] ++ l.drop k) j).id = (nat (l.take k ++ [n] ++ l.drop k) i).par) : pix (l.take k ++ [n] ++ l.drop k) i = j := by
  have hlen := put_len h
  unfold pix
  refine idx_is (by rw [List.length_take, hlen]; omega) (by rw [nat_take hj]; exact he) fun q hq => ?_
  rw [nat_take (by omega)]
  intro hqe
  have := put_inj h (a := q) (c := j) (by omega) (by omega) (hqe.trans he.symm)
  omega
theorem put_pixk : pix (l.take k ++ [n] ++ l.drop k) k = p := by
  have hk := h.kle
  have hp := h.plt
  refine put_pix h hp (by omega) ?_
  rw [put_new h, nat_put hk, if_pos hp]
  exact h.par
theorem put_pixs {i : Nat} (hi : i < l.length) (hp : 0 ≤ pix l i) : pix (l.take k ++ [n] ++ l.drop k) (shf k i) = shf k (pix l i).toNat := by
  have hlt := pix_lt l i
  refine put_pix h (shf_lt (by omega)) (shf_len hi) ?_
  rw [put_shf h, put_shf h]
  exact par_id hi hp
theorem put_pix0 : pix (l.take k ++ [n] ++ l.drop k) (shf k 0) = -1 := by
  have : shf k 0 = 0 := by have := h.plt; unfold shf; rw [if_pos (by omega)]
  rw [this, pix_zero]
theorem put_dpt : ∀ {i : Nat}, i < l.length → dpt (l.take k ++ [n] ++ l.drop k) (shf k i) = dpt l i := by
  intro i
  induction i using Nat.strongRecOn with
  | ind i ih =>
    intro hi
    have hlt := pix_lt l i
    rw [dpt_eq, dpt_eq l]
    by_cases hp : 0 ≤ pix l i
    · rw [if_pos hp, put_pixs h hi hp, if_pos (by omega), Int.toNat_natCast, ih _ (by omega) (by omega)]
    · rw [if_neg hp]
      have h0 : i = 0 := by
        rcases Nat.eq_zero_or_pos i with h0 | h0
        · exact h0
        · exact absurd (h.tree.up i h0 hi).1 hp
      subst h0
      rw [put_pix0 h, if_neg (by omega)]
theorem put_tree : Tree (l.take k ++ [n] ++ l.drop k) := by
  have hlen := put_len h
  have hk := h.kle
  have hpk := h.plt
  have hl := h.tree.len
  have hr := h.room
  have e0 : nat (l.take k ++ [n] ++ l.drop k) 0 = nat l 0 := by rw [nat_put hk, if_pos (by omega)]
  refine ⟨by omega, by rw [e0]; exact h.tree.root, fun i hi => ?_, fun i hi => ?_, fun i h0 hi => ?_, fun i hi => ?_⟩
  · rw [hlen] at hi
    rcases put_cases h hi with rfl | ⟨j, hj, rfl⟩
    · rw [put_new h]; exact h.form
    · rw [put_shf h]; exact h.tree.form j hj
  · rw [hlen] at hi
    refine idx_no fun j hj => ?_
    rw [List.length_take, hlen] at hj
    rw [nat_take (by omega)]
    intro he
    have := put_inj h (a := j) (c := i) (by omega) hi he
    omega
  · rw [hlen] at hi
    rcases put_cases h hi with rfl | ⟨j, hj, rfl⟩
    · rw [put_pixk h, put_new h, Int.toNat_natCast, nat_put hk, if_pos hpk]
      exact ⟨by omega, h.stand⟩
    · have hj0 : 0 < j := by
        rcases Nat.eq_zero_or_pos j with h1 | h1
        · subst h1
          have : shf k 0 = 0 := by unfold shf; rw [if_pos (by omega)]
          omega
        · exact h1
      obtain ⟨h1, h2⟩ := h.tree.up j hj0 hj
      rw [put_pixs h hj h1, Int.toNat_natCast, put_shf h, put_shf h]
      exact ⟨by omega, h2⟩
  · rw [hlen] at hi
    rcases put_cases h hi with rfl | ⟨j, hj, rfl⟩
    · rw [dpt_eq, put_pixk h, if_pos (by omega), Int.toNat_natCast]
      have e : shf i p = p := by unfold shf; rw [if_pos hpk]
      have := put_dpt h (i := p) (by omega)
      rw [e] at this
      rw [this]
      have := h.deep
      omega
    · rw [put_dpt h hj]; exact h.tree.deep j hj
theorem put_go : ∀ {j : Nat}, j < l.length + 1 → goB (l.take k ++ [n] ++ l.drop k) n.id j = decide (j = k) := by
  intro j
  induction j using Nat.strongRecOn with
  | ind j ih =>
    intro hj
    have hlt := pix_lt (l.take k ++ [n] ++ l.drop k) j
    rw [goB_eq]
    rcases put_cases h hj with rfl | ⟨i, hi, rfl⟩
    · rw [put_new h]; simp
    · rw [put_shf h, decide_eq_false (put_fresh h hi), Bool.false_or]
      have hne : shf k i ≠ k := by unfold shf; split <;> omega
      rw [decide_eq_false hne]
      by_cases hp : 0 ≤ pix l i
      · have hpi := pix_lt l i
        have hs := put_pixs h hi hp
        rw [hs, Int.toNat_natCast]
        rw [hs] at hlt
        have hsi := shf_len (k := k) hi
        rw [ih _ (by omega) (by omega), decide_eq_false (show ¬ shf k (pix l i).toNat = k by unfold shf; split <;> omega)]
        simp
      · have h0 : i = 0 := by
          rcases Nat.eq_zero_or_pos i with h0 | h0
          · exact h0
          · exact absurd (h.tree.up i h0 hi).1 hp
        subst h0
        rw [put_pix0 h]
        simp
theorem put_st : ∀ j, j ≤ l.length + 1 → stL (l.take k ++ [n] ++ l.drop k) n.id j = if j ≤ k then l.take j else l.take (j - 1)
  | 0, _ => by simp [stL]
  | j + 1, hj => by
    have ih := put_st j (by omega)
    have hk := h.kle
    rw [stL_succ, put_go h (by omega), ih]
    by_cases hjk : j = k
    · rw [if_pos (by simpa using hjk), if_pos (by omega), if_neg (by omega), Nat.add_sub_cancel]
    · rw [decide_eq_false hjk]
      simp only [Bool.false_eq_true, if_false]
      rw [nat_put hk]
      by_cases h1 : j < k
      · rw [if_pos (by omega), if_pos h1, if_pos (by omega), take_nat (by omega)]
      · rw [if_neg (by omega), if_neg h1, if_neg hjk, if_neg (by omega)]
        obtain ⟨q, rfl⟩ : ∃ q, j = q + 1 := ⟨j - 1, by omega⟩
        simp only [Nat.add_sub_cancel]
        rw [take_nat (by omega)]
theorem put_back : stL (l.take k ++ [n] ++ l.drop k) n.id (l.take k ++ [n] ++ l.drop k).length = l := by
  have hk := h.kle
  rw [put_len h, put_st h _ (Nat.le_refl _), if_neg (by omega), Nat.add_sub_cancel, List.take_length]
end
end Go.Proofs.Ytgccnkihonmlbaa
/- Plain facts behind the laws of further nodes, and of nodes that stand elsewhere: places among the children; what moves. -/
namespace Go.Proofs.Ytgccnkihonmlbaa
open Go Go.RowKit
set_option linter.unusedSimpArgs false
set_option linter.unusedVariables false

theorem kix_sorted (l : List Nd) (m : Nat) : (kix l m).Pairwise (· < ·) := List.Pairwise.filter _ List.pairwise_lt_range
theorem kat_inj {l : List Nd} {m j k : Nat} (hj : j < (kix l m).length) (hk : k < (kix l m).length) (h : kat l m j = kat l m k) : j = k := by
  unfold kat at h
  rcases Nat.lt_trichotomy j k with h1 | h1 | h1
  · have := ks_lt (kix_sorted l m) h1 hk; omega
  · exact h1
  · have := ks_lt (kix_sorted l m) h1 hj; omega
theorem iat_app (A B : List Int) (j : Nat) : iat (A ++ B) (A.length + j) = iat B j := by
  unfold iat
  rw [List.getD_eq_getElem?_getD, List.getD_eq_getElem?_getD, List.getElem?_append_right (by omega), Nat.add_sub_cancel_left]
theorem place_ok {m : List Nd} (hT : Tree m) {i : Nat} (hi : i < m.length) {A B : List Int} {x b : Int} (hks : kidsL m (nat m i).id = A ++ ([x] ++ B)) (hB : (b = 0 ∧ B = []) ∨ (b ≠ 0 ∧ ∃ C, B = b :: C)) :
    iat (kidsL m (nat m i).id) A.length = x ∧ A.length < (kidsL m (nat m i).id).length ∧ (∀ j, j < (kidsL m (nat m i).id).length → iat (kidsL m (nat m i).id) j = b → j = A.length + 1) ∧
      ((A.length + 1 < (kidsL m (nat m i).id).length ∧ iat (kidsL m (nat m i).id) (A.length + 1) = b) ∨ A.length + 1 = (kidsL m (nat m i).id).length) := by
  have hl := kids_len hT hi
  have hlen : (kidsL m (nat m i).id).length = A.length + (1 + B.length) := by rw [hks]; simp; omega
  refine ⟨by rw [hks]; exact iat_app A ([x] ++ B) 0, by omega, fun j hj he => ?_, ?_⟩
  · rcases hB with ⟨h0, _⟩ | ⟨h0, C, rfl⟩
    · exfalso
      rw [kids_at hT hi (by omega)] at he
      have h1 := kat_spec (l := m) (m := i) (k := j) (by omega)
      have := fm_id (hT.form _ h1.1)
      omega
    · have e2 : iat (kidsL m (nat m i).id) (A.length + 1) = b := by rw [hks]; exact iat_app A ([x] ++ b :: C) 1
      rw [← e2] at he
      simp only [List.length_cons] at hlen
      rw [kids_at hT hi (by omega), kids_at hT hi (by omega)] at he
      have h1 := kat_spec (l := m) (m := i) (k := j) (by omega)
      have h2 := kat_spec (l := m) (m := i) (k := A.length + 1) (by omega)
      exact kat_inj (by omega) (by omega) (id_inj hT h1.1 h2.1 he)
  · rcases hB with ⟨h0, rfl⟩ | ⟨h0, C, rfl⟩
    · right; rw [hlen]; rfl
    · left
      exact ⟨by rw [hlen]; simp, by rw [hks]; exact iat_app A ([x] ++ b :: C) 1⟩
theorem drop_nat {l : List Nd} {k : Nat} (h : k < l.length) : l.drop k = nat l k :: l.drop (k + 1) := by
  rw [List.drop_eq_getElem_cons h]
  unfold nat
  rw [List.getD_eq_getElem?_getD, List.getElem?_eq_getElem h]
  rfl
/-- What Insert returns, where nothing is wrong. -/
theorem ins_put {l : List Nd} {n : Nd} {b : Int} (h : insE l n b = 0) : PutOk l n (putI l b).toNat (idx l n.par).toNat ∧ 0 ≤ putI l b ∧ insL l n b = l.take (putI l b).toNat ++ [n] ++ l.drop (putI l b).toNat ∧ idB n.par = true ∧ idB n.id = true ∧
    ((b = 0 ∧ l.drop (putI l b).toNat = []) ∨ (b ≠ 0 ∧ ∃ k, l.drop (putI l b).toNat = k :: l.drop ((putI l b).toNat + 1) ∧ k.id = b ∧ k.par = n.par)) := by
  obtain ⟨hT, ⟨hf, hp0⟩, hnew, hpar, ⟨hk, hb⟩, hst, hlen, hfd⟩ := ins_ok h
  have hl := hT.len
  have hfm := fm_id hf
  have hpl := putI_le l b
  obtain ⟨p, hp1, hp, _, hpd⟩ := idx_nat hpar
  have hpp : (idx l n.par).toNat = p := by omega
  have hpid := idx_id hpar
  rw [hpp] at hpid
  have hdd := hT.deep p hp
  have hB : 0 ≤ putI l b ∧ p < (putI l b).toNat ∧ ((b = 0 ∧ l.drop (putI l b).toNat = []) ∨ (b ≠ 0 ∧ ∃ k, l.drop (putI l b).toNat = k :: l.drop ((putI l b).toNat + 1) ∧ k.id = b ∧ k.par = n.par)) := by
    by_cases h0 : b = 0
    · have e : putI l b = (l.length : Int) := by unfold putI; rw [if_pos h0]
      rw [e, Int.toNat_natCast]
      exact ⟨by omega, hp, .inl ⟨h0, List.drop_length⟩⟩
    · have e : putI l b = idx l b := by unfold putI; rw [if_neg h0]
      obtain ⟨j, hj, hjb, hjp⟩ := kids_in (hk h0)
      have hjx := idx_self hT hj
      rw [hjb] at hjx
      rw [e, hjx, Int.toNat_natCast]
      have hpx : pix l j = p := by rw [← up_pix hT hj, hjp, hp1]
      have := pix_lt l j
      exact ⟨by omega, by omega, .inr ⟨h0, nat l j, drop_nat hj, hjb, hjp⟩⟩
  refine ⟨⟨hT, hf, hnew, by omega, by rw [hpp]; exact hB.2.1, by rw [hpp]; exact hpid, hst, by omega, ?_⟩, hB.1, by unfold insL; rw [if_pos h]; rfl, by simp [idB]; omega, by simp [idB]; omega, hB.2.2⟩
  rw [hpp]
  rw [hpd] at hfd
  omega

/-! ### What moves -/
theorem mv_ok {l : List Nd} {x p b : Int} (h : mvE l x p b = 0) : Tree l ∧ (0 ≤ idx l x ∧ 0 ≤ idx l p) ∧ idB p = true ∧ goB l x (idx l p).toNat = false ∧ (b ≠ 0 → b ≠ x ∧ iin (kidsL l p) b = true) ∧ treB (mvR l x p b) = true := by
  unfold mvE at h
  split at h
  · cases h
  rename_i ht
  split at h
  · cases h
  rename_i h1
  split at h
  · cases h
  rename_i h2
  split at h
  · cases h
  rename_i h3
  split at h
  · cases h
  rename_i h4
  split at h
  · cases h
  rename_i h5
  have hT := treB_true.1 (by simpa using ht)
  simp only [Bool.or_eq_true, Bool.and_eq_true, Bool.not_eq_true', decide_eq_true_eq, decide_eq_false_iff_not, not_or, not_and, Bool.not_eq_false, Bool.not_eq_true] at h1 h2 h3 h4 h5
  exact ⟨hT, ⟨by omega, by omega⟩, h1.1.2, h3.1.2, fun hb => h3.2 hb, h5⟩
theorem mv_up {l : List Nd} {x : Int} {q : Nat} (hq : q < l.length) (hg : goB l x q = true) (hne : (nat l q).id ≠ x) : 0 ≤ pix l q ∧ goB l x (pix l q).toNat = true := by
  rw [goB_eq, decide_eq_false hne, Bool.false_or] at hg
  simpa using hg
section
variable {l : List Nd} {x p b : Int} (h : mvE l x p b = 0)
include h
theorem mv_go : ∃ t, goL l x l.length = nat l (idx l x).toNat :: t ∧ (nat l (idx l x).toNat).id = x ∧ setP (goL l x l.length) p = { nat l (idx l x).toNat with par := p } :: t ∧ ∀ m ∈ t, m.id ≠ x ∧ ∃ q, q < l.length ∧ nat l q = m ∧ goB l x q = true := by
  obtain ⟨hT, ⟨hx, hp⟩, _⟩ := mv_ok h
  obtain ⟨t, ht, hid⟩ := goL_first hT hx
  refine ⟨t, ht, hid, by rw [ht]; rfl, fun m hm => ?_⟩
  have hnd : ((goL l x l.length).map (·.id)).Nodup := by
    unfold goL
    rw [List.map_map]
    have hp : ((List.range l.length).filter fun i => goB l x i).Pairwise (· < ·) := List.Pairwise.filter _ List.pairwise_lt_range
    refine List.pairwise_map.2 (hp.imp_of_mem fun {a c} ha hc hac he => ?_)
    have h1 := List.mem_range.1 (List.mem_filter.1 ha).1
    have h2 := List.mem_range.1 (List.mem_filter.1 hc).1
    have := id_inj hT h1 h2 he
    omega
  have hmem : m ∈ goL l x l.length := by rw [ht]; exact List.mem_cons_of_mem _ hm
  refine ⟨fun e => ?_, ?_⟩
  · rw [ht, List.map_cons, List.nodup_cons] at hnd
    apply hnd.1
    rw [hid, ← e]
    exact List.mem_map_of_mem hm
  · unfold goL at hmem
    obtain ⟨q, hq, hqm⟩ := List.mem_map.1 hmem
    obtain ⟨hq1, hq2⟩ := List.mem_filter.1 hq
    exact ⟨q, List.mem_range.1 hq1, hqm, hq2⟩
theorem mv_st {m : Nd} (hm : m ∈ stL l x l.length) : ∃ q, q < l.length ∧ nat l q = m ∧ goB l x q = false ∧ m.id ≠ x := by
  obtain ⟨hT, ⟨hx, hp⟩, _⟩ := mv_ok h
  unfold stL at hm
  obtain ⟨q, hq, hqm⟩ := List.mem_map.1 hm
  obtain ⟨hq1, hq2⟩ := List.mem_filter.1 hq
  have hq3 : goB l x q = false := by simpa using hq2
  refine ⟨q, List.mem_range.1 hq1, hqm, hq3, fun e => ?_⟩
  rw [goB_eq] at hq3
  simp [hqm, e] at hq3
theorem mv_kids : ∃ A B, kidsL (mvR l x p b) p = A ++ ([x] ++ B) ∧ ((b = 0 ∧ B = []) ∨ (b ≠ 0 ∧ ∃ C, B = b :: C)) := by
  obtain ⟨hT, ⟨hx, hp⟩, hidp, hg, hb, _⟩ := mv_ok h
  obtain ⟨t, ht, hid, hs, hmem⟩ := mv_go h
  refine ⟨kidsL ((stL l x l.length).take (putI (stL l x l.length) b).toNat) p, kidsL ((stL l x l.length).drop (putI (stL l x l.length) b).toNat) p, ?_, ?_⟩
  · unfold mvR putL
    rw [kidsL_append, kidsL_append, hs, kidsL_cons, if_pos rfl, List.append_assoc]
    have e : kidsL t p = [] := by
      unfold kidsL
      rw [List.map_eq_nil_iff, List.filter_eq_nil_iff]
      intro m hm
      obtain ⟨hne, q, hq, hqm, hqg⟩ := hmem m hm
      simp only [decide_eq_true_eq]
      intro hmp
      obtain ⟨h1, h2⟩ := mv_up hq hqg (by rw [hqm]; exact hne)
      obtain ⟨i, hi1, hi, _, _⟩ := idx_nat hp
      have hii : (idx l p).toNat = i := by omega
      rw [hii] at hg
      have hip := idx_id hp
      rw [hii] at hip
      have := (par_pix hT hq hi).1 (by rw [hqm, hmp, hip])
      rw [this, Int.toNat_natCast, hg] at h2
      cases h2
    rw [e, hid]
  · by_cases h0 : b = 0
    · left
      refine ⟨h0, ?_⟩
      have e : putI (stL l x l.length) b = ((stL l x l.length).length : Int) := by unfold putI; rw [if_pos h0]
      rw [e, Int.toNat_natCast, List.drop_length]
      rfl
    · right
      refine ⟨h0, ?_⟩
      have e : putI (stL l x l.length) b = idx (stL l x l.length) b := by unfold putI; rw [if_neg h0]
      obtain ⟨hbx, hbk⟩ := hb h0
      have hpi : 0 ≤ putI (stL l x l.length) b := putI_mv hT hp (p := p) hg (by rw [hbk, decide_eq_false hbx]; simp)
      rw [e] at hpi ⊢
      obtain ⟨j, hj1, hj, _, _⟩ := idx_nat hpi
      rw [hj1, Int.toNat_natCast, drop_nat hj, kidsL_cons]
      have hji := idx_id hpi
      rw [hj1, Int.toNat_natCast] at hji
      obtain ⟨q, hq, hqb, hqp⟩ := kids_in hbk
      have hm : nat (stL l x l.length) j ∈ stL l x l.length := by unfold nat; rw [List.getD_eq_getElem?_getD, List.getElem?_eq_getElem hj]; exact List.getElem_mem hj
      obtain ⟨q2, hq2, hqm, _, _⟩ := mv_st h hm
      have : q2 = q := id_inj hT hq2 hq (by rw [hqm, hji, hqb])
      subst this
      rw [if_pos (by rw [← hqm]; exact hqp), hji]
      exact ⟨_, rfl⟩
theorem mv_mem {i : Nat} (hi : i < l.length) : (if (nat l i).id = x then { nat l i with par := p } else nat l i) ∈ mvR l x p b := by
  obtain ⟨hT, ⟨hx, hp⟩, _⟩ := mv_ok h
  obtain ⟨t, ht, hid, hs, hmem⟩ := mv_go h
  unfold mvR putL
  simp only [List.mem_append]
  by_cases hxi : (nat l i).id = x
  · rw [if_pos hxi]
    left; right
    rw [hs]
    have : i = (idx l x).toNat := by
      have := idx_self hT hi
      rw [hxi] at this
      omega
    rw [← this]
    exact List.mem_cons_self ..
  · rw [if_neg hxi]
    cases hg : goB l x i with
    | true =>
      left; right
      rw [hs]
      have hm : nat l i ∈ goL l x l.length := by
        unfold goL
        exact List.mem_map_of_mem (List.mem_filter.2 ⟨List.mem_range.2 hi, hg⟩)
      rw [ht] at hm
      rcases List.mem_cons.1 hm with e | hm
      · exact absurd (by rw [e]; exact hid) hxi
      · exact List.mem_cons_of_mem _ hm
    | false =>
      have hm : nat l i ∈ stL l x l.length := mem_stL hi hg
      rw [← List.take_append_drop (putI (stL l x l.length) b).toNat (stL l x l.length)] at hm
      rcases List.mem_append.1 hm with hm | hm
      · exact .inl (.inl hm)
      · exact .inr hm
theorem mv_find {i : Nat} (hi : i < l.length) : ∃ q, q < (mvR l x p b).length ∧ idx (mvR l x p b) (nat l i).id = (q : Int) ∧ nat (mvR l x p b) q = (if (nat l i).id = x then { nat l i with par := p } else nat l i) := by
  obtain ⟨_, _, _, _, _, ht⟩ := mv_ok h
  have hTm := treB_true.1 ht
  obtain ⟨q, hq, he⟩ := mem_nat (mv_mem h hi)
  refine ⟨q, hq, ?_, he⟩
  have := idx_self hTm hq
  rw [he] at this
  rw [← this]
  congr 1
  split <;> rfl
theorem mv_len : (mvR l x p b).length = l.length := by
  obtain ⟨hT, ⟨hx, hp⟩, _, hg, hb, _⟩ := mv_ok h
  have hpi : 0 ≤ putI (stL l x l.length) b := putI_mv hT hp (p := p) hg (by
    by_cases h0 : b = 0
    · simp [h0]
    · obtain ⟨h1, h2⟩ := hb h0
      rw [h2, decide_eq_false h1]; simp)
  unfold mvR
  rw [putL_len hpi, setP_len]
  have := go_st_len l x l.length
  omega
theorem mv_alk : ∀ y, kidsL (oth l x) y = kidsL (oth (mvR l x p b) x) y := by
  intro y
  obtain ⟨hT, ⟨hx, hp⟩, _, hg, hb, _⟩ := mv_ok h
  obtain ⟨t, ht, hid, hs, hmem⟩ := mv_go h
  have oa : ∀ A B : List Nd, kidsL (oth (A ++ B) x) y = kidsL (oth A x) y ++ kidsL (oth B x) y := fun A B => by unfold oth; rw [List.filter_append, kidsL_append]
  have eG : kidsL (oth (setP (goL l x l.length) p) x) y = kidsL (oth (goL l x l.length) x) y := by
    rw [hs, ht]
    unfold oth
    rw [List.filter_cons_of_neg (by simp [hid]), List.filter_cons_of_neg (by simp [hid])]
  have eS := oa ((stL l x l.length).take (putI (stL l x l.length) b).toNat) ((stL l x l.length).drop (putI (stL l x l.length) b).toNat)
  rw [List.take_append_drop] at eS
  have eM : kidsL (oth (mvR l x p b) x) y = kidsL (oth ((stL l x l.length).take (putI (stL l x l.length) b).toNat) x) y ++ kidsL (oth (goL l x l.length) x) y ++ kidsL (oth ((stL l x l.length).drop (putI (stL l x l.length) b).toNat) x) y := by
    unfold mvR putL
    rw [oa, oa, eG]
  have kf : ∀ f : Nat → Bool, kidsL (oth (((List.range l.length).filter f).map (nat l)) x) y = ((List.range l.length).filter fun i => f i && (decide ((nat l i).id ≠ x) && decide ((nat l i).par = y))).map fun i => (nat l i).id := fun f => by
    unfold kidsL oth
    rw [List.filter_map, List.filter_map, List.map_map, List.filter_filter, List.filter_filter]
    have : ((fun n : Nd => n.id) ∘ nat l) = fun i => (nat l i).id := rfl
    rw [this]
    congr 1
    apply List.filter_congr
    intro i _
    simp only [Function.comp]
    cases f i <;> cases decide ((nat l i).id ≠ x) <;> cases decide ((nat l i).par = y) <;> rfl
  have kG : kidsL (oth (goL l x l.length) x) y = _ := kf fun i => goB l x i
  have kS : kidsL (oth (stL l x l.length) x) y = _ := kf fun i => !goB l x i
  have kL : kidsL (oth l x) y = ((List.range l.length).filter fun i => (decide ((nat l i).id ≠ x) && decide ((nat l i).par = y))).map fun i => (nat l i).id := by
    have h0 : (List.range l.length).filter (fun _ => true) = List.range l.length := List.filter_eq_self.2 fun _ _ => rfl
    have := kf fun _ => true
    rw [h0, nats] at this
    simp only [Bool.true_and] at this
    exact this
  by_cases hy : ∃ q, q < l.length ∧ goB l x q = true ∧ (nat l q).id = y
  · obtain ⟨q, hq, hqg, hqy⟩ := hy
    have hall : ∀ i, i < l.length → (nat l i).par = y → goB l x i = true := fun i hi he => by
      have := (par_pix hT hi hq).1 (by rw [he, hqy])
      rw [goB_eq, this, Int.toNat_natCast, hqg]
      simp
    have hS0 : kidsL (oth (stL l x l.length) x) y = [] := by
      rw [kS, List.map_eq_nil_iff, List.filter_eq_nil_iff]
      intro i hi
      have hi' := List.mem_range.1 hi
      by_cases he : (nat l i).par = y
      · simp [hall i hi' he]
      · simp [he]
    rw [hS0] at eS
    obtain ⟨e1, e2⟩ := List.append_eq_nil_iff.1 eS.symm
    rw [eM, e1, e2, List.nil_append, List.append_nil, kL, kG]
    congr 1
    apply List.filter_congr
    intro i hi
    have hi' := List.mem_range.1 hi
    by_cases he : (nat l i).par = y
    · simp [hall i hi' he]
    · simp [he]
  · have hnone : ∀ i, i < l.length → (nat l i).id ≠ x → (nat l i).par = y → goB l x i = false := fun i hi hne he => by
      cases hgi : goB l x i with
      | false => rfl
      | true =>
        exfalso
        obtain ⟨h1, h2⟩ := mv_up hi hgi hne
        have hlt := pix_lt l i
        exact hy ⟨(pix l i).toNat, by omega, h2, by rw [par_id hi h1, he]⟩
    have hG0 : kidsL (oth (goL l x l.length) x) y = [] := by
      rw [kG, List.map_eq_nil_iff, List.filter_eq_nil_iff]
      intro i hi
      have hi' := List.mem_range.1 hi
      by_cases he : (nat l i).par = y
      · by_cases hne : (nat l i).id = x
        · simp [hne]
        · simp [hnone i hi' hne he]
      · simp [he]
    rw [eM, hG0, List.append_nil, ← eS, kL, kS]
    congr 1
    apply List.filter_congr
    intro i hi
    have hi' := List.mem_range.1 hi
    by_cases he : (nat l i).par = y
    · by_cases hne : (nat l i).id = x
      · simp [hne]
      · simp [hnone i hi' hne he]
    · simp [he]
end
end Go.Proofs.Ytgccnkihonmlbaa
