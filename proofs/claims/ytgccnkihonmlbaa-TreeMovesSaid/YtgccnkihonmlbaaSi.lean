/- Plain facts of the selector's forest: a map from numbers to nodes. -/
import Derived.Test.YtgccnkihonmlbaaSg
import Derived.Test.YtgccnkihonmlbaaAo
namespace Go.Proofs.Ytgccnkihonmlbaa
open Go Go.RowKit
set_option linter.unusedSimpArgs false
set_option linter.unusedVariables false

def putN (k : Int) (n : Nd) : List (Int × Nd) → List (Int × Nd)
  | [] => [(k, n)]
  | x :: xs => if k = x.1 then (k, n) :: xs else x :: putN k n xs
def forL (l : List Nd) : List (Int × Nd) := l.foldl (fun a n => putN n.id n a) []
def forE (a : List (Int × Nd)) : List (D × D) := a.map fun x => (.int .i64 x.1, .ag (nrow x.2))
theorem for_put (k : Int) (n : Nd) : ∀ a : List (Int × Nd), mput (.int .i64 k) (.ag (nrow n)) (forE a) = some (forE (putN k n a))
  | [] => rfl
  | x :: xs => by
    have ih := for_put k n xs
    unfold forE at ih ⊢
    simp only [List.map_cons, mput, keq_int, putN]
    by_cases h : k = x.1
    · simp [h]
    · simp [h, ih]
theorem for_put' (n : Nd) (a : List (Int × Nd)) : mput (.int .i64 n.id) (.ag [.int .i64 n.id, .int .i64 n.par, .int .i64 n.kind, .int .i64 n.cls, .str n.txt]) (forE a) = some (forE (putN n.id n a)) := for_put n.id n a
theorem forL_take {l : List Nd} {i : Nat} (h : i < l.length) : forL (l.take (i + 1)) = putN (nat l i).id (nat l i) (forL (l.take i)) := by
  have e : l[i]? = some (nat l i) := by simp [nat, List.getD_eq_getElem?_getD, h]
  unfold forL
  rw [List.take_add_one, e, List.foldl_append]
  rfl
theorem putN_new {k : Int} {n : Nd} : ∀ {a : List (Int × Nd)}, (∀ x ∈ a, k ≠ x.1) → putN k n a = a ++ [(k, n)]
  | [], _ => rfl
  | x :: xs, h => by
    rw [putN, if_neg (h x (by simp)), putN_new fun y hy => h y (List.mem_cons_of_mem _ hy)]
    rfl
theorem mem_nat {l : List Nd} {n : Nd} (h : n ∈ l) : ∃ j, j < l.length ∧ nat l j = n := by
  obtain ⟨j, hj, e⟩ := List.mem_iff_getElem.1 h
  exact ⟨j, hj, by simp [nat, List.getD_eq_getElem?_getD, hj, e]⟩
theorem forL_tree {l : List Nd} (hT : Tree l) : ∀ i, i ≤ l.length → forL (l.take i) = (l.take i).map fun n => (n.id, n)
  | 0, _ => rfl
  | i + 1, h => by
    have e : l[i]? = some (nat l i) := by simp [nat, List.getD_eq_getElem?_getD, show i < l.length by omega]
    rw [forL_take (by omega), forL_tree hT i (by omega), putN_new, List.take_add_one, e, List.map_append]
    · rfl
    · intro x hx
      obtain ⟨n, hn, rfl⟩ := List.mem_map.1 hx
      obtain ⟨j, hj, rfl⟩ := mem_nat hn
      rcases idx_cases (l.take i) (nat l i).id with ⟨k, hk, h1, h2, h3⟩ | ⟨h2, _⟩
      · have := hT.once i (by omega); omega
      · exact fun e => h2 j hj e.symm
def ndk (l : List Nd) (k : Int) : Nd := if 0 ≤ idx l k then nat l (idx l k).toNat else nd0
theorem fore_find {k : Int} : ∀ {l : List Nd} {i : Nat}, i < l.length → (nat l i).id = k → (∀ j, j < i → (nat l j).id ≠ k) → ((l.map fun n => (n.id, n)).find? fun x => decide (k = x.1)) = some (k, nat l i)
  | [], _, h, _, _ => by simp at h
  | n :: l, 0, _, h1, _ => by
    have e : n.id = k := h1
    simp [e, nat]
  | n :: l, i + 1, h, h1, h2 => by
    have e : n.id ≠ k := h2 0 (by omega)
    have := fore_find (k := k) (l := l) (i := i) (by simpa using h) h1 fun j hj => h2 (j + 1) (by omega)
    simp only [List.map_cons, List.find?_cons]
    rw [decide_eq_false (fun x => e x.symm)]
    simpa [nat] using this
theorem fore_none {k : Int} {l : List Nd} (h : ∀ j, j < l.length → (nat l j).id ≠ k) : ((l.map fun n => (n.id, n)).find? fun x => decide (k = x.1)) = none := by
  rw [List.find?_eq_none]
  intro x hx
  obtain ⟨n, hn, rfl⟩ := List.mem_map.1 hx
  obtain ⟨j, hj, rfl⟩ := mem_nat hn
  simpa using fun e => h j hj e.symm
theorem for_get {l : List Nd} (hT : Tree l) (k : Int) : mget (.int .i64 k) (forE (forL l)) = some (if 0 ≤ idx l k then some (.ag (nrow (ndk l k))) else none) := by
  have e := forL_tree hT l.length (Nat.le_refl _)
  rw [List.take_length] at e
  rw [e]
  have := mget_map (fun k => .int .i64 k) (fun n : Nd => .ag (nrow n)) keq_int k (l.map fun n => (n.id, n))
  unfold forE
  rw [this]
  unfold ndk
  rcases idx_cases l k with ⟨i, hi, h1, h2, h3⟩ | ⟨h2, h3⟩
  · rw [fore_find hi h1 h2, h3]
    simp
  · rw [fore_none h2, h3]
    simp
theorem for_look (l : List Nd) (k : Int) : lookD true (.ag [.int .i64 0, .int .i64 0, .int .i64 0, .int .i64 0, .str []]) (if 0 ≤ idx l k then some (.ag (nrow (ndk l k))) else none) = .tup [.ag (nrow (ndk l k)), .bool (decide (0 ≤ idx l k))] := by
  by_cases h : 0 ≤ idx l k
  · simp [h, lookD]
  · rw [if_neg h, lookD_n]
    simp [h, ndk, nrow, nd0]
theorem for_look' (l : List Nd) (k : Int) : lookD false (.ag [.int .i64 0, .int .i64 0, .int .i64 0, .int .i64 0, .str []]) (if 0 ≤ idx l k then some (.ag (nrow (ndk l k))) else none) = .ag (nrow (ndk l k)) := by
  by_cases h : 0 ≤ idx l k
  · simp [h, lookD]
  · rw [if_neg h, lookD_fn]
    simp [h, ndk, nrow, nd0]
/-- The place of the i-th above, the node itself being the 0th. -/
def cur (l : List Nd) (i j : Nat) : Nat := (i :: chn l i).getD j 0
theorem cur_zero (l : List Nd) (i : Nat) : cur l i 0 = i := rfl
theorem cur_succ {l : List Nd} {i j x : Nat} (h : (chn l i)[j]? = some x) : cur l i (j + 1) = x := by
  unfold cur
  simp [List.getD_eq_getElem?_getD, h]
theorem cur_pix {l : List Nd} {i j : Nat} (h : j ≤ (chn l i).length) : pix l (cur l i j) = upc (chn l i) j ∧ cur l i j ≤ i := by
  cases j with
  | zero => exact ⟨chn_zero l i, Nat.le_refl _⟩
  | succ j =>
    have e : (chn l i)[j]? = some (chn l i)[j] := List.getElem?_eq_getElem (by omega)
    rw [cur_succ e]
    obtain ⟨h1, h2⟩ := chn_step l i e
    exact ⟨h1, by omega⟩
theorem par_zero {l : List Nd} (hT : Tree l) {i : Nat} (hi : i < l.length) : (nat l i).par = 0 ↔ ¬ 0 ≤ pix l i := by
  by_cases h0 : 0 < i
  · have hu := (hT.up i h0 hi).1
    refine ⟨fun e => ?_, fun h => absurd hu h⟩
    have := up_pix hT hi
    rw [e] at this
    rw [idx_no] at this
    · omega
    · intro j hj
      have := (fm_id (hT.form j hj)).1
      omega
  · obtain rfl : i = 0 := by omega
    rw [hT.root.1, pix_zero]
    simp
theorem idx_self {l : List Nd} (hT : Tree l) {i : Nat} (hi : i < l.length) : idx l (nat l i).id = i := by
  refine idx_is hi rfl fun j hj => ?_
  rcases idx_cases (l.take i) (nat l i).id with ⟨k, hk, h1, h2, h3⟩ | ⟨h2, _⟩
  · have := hT.once i hi; omega
  · have := h2 j (by rw [List.length_take]; omega)
    rwa [nat_take hj] at this
end Go.Proofs.Ytgccnkihonmlbaa
