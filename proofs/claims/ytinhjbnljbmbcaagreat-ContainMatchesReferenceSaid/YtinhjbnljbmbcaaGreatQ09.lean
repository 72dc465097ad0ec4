/- Joined. -/
import Derived.Test.YtinhjbnljbmbcaaGreatQ08
import Derived.Test.YtinhjbnljbmbcaaGreatQ03
namespace Go.Proofs.YtinhjbnljbmbcaaGreat
open Go Go.RowKit
set_option linter.unusedSimpArgs false
set_option linter.unusedVariables false
set_option maxHeartbeats 4000000
set_option maxRecDepth 100000
section
def chn (l : List Nd) (i : Nat) : List Nat :=
 if 0 ≤ pix l i then (pix l i).toNat :: chn l (pix l i).toNat else []
termination_by i
decreasing_by
 have := pix_lt l i
 omega
theorem chn_eq (l : List Nd) (i : Nat) : chn l i = if 0 ≤ pix l i then (pix l i).toNat :: chn l (pix l i).toNat else [] := by rw [chn]
def upc (c : List Nat) (j : Nat) : Int := match c[j]? with
 | some x => (x : Int)
 | none => -1
theorem chn_zero (l : List Nd) (i : Nat) : pix l i = upc (chn l i) 0 := by
 have := pix_ge l i
 rw [chn_eq]
 split <;> simp [upc] <;> omega
theorem chn_step (l : List Nd) : ∀ (i : Nat) {j x : Nat}, (chn l i)[j]? = some x → pix l x = upc (chn l i) (j + 1) ∧ x < i := by
 intro i
 induction i using Nat.strongRecOn with
 | ind i ih =>
  intro j x h
  have hlt := pix_lt l i
  rw [chn_eq] at h ⊢
  split at h
  ·rename_i hp
   rw [if_pos hp]
   cases j with
   | zero =>
    simp only [List.getElem?_cons_zero, Option.some.injEq] at h
    subst h
    have := chn_zero l (pix l i).toNat
    refine ⟨?_, by omega⟩
    rw [this]; simp [upc]
   | succ j =>
    rw [List.getElem?_cons_succ] at h
    obtain ⟨h1, h2⟩ := ih (pix l i).toNat (by omega) h
    refine ⟨?_, by omega⟩
    rw [h1]; simp [upc]
  ·simp at h
theorem upc_pos {c : List Nat} {j : Nat} (h : 0 ≤ upc c j) : ∃ x : Nat, c[j]? = some x ∧ upc c j = (x : Int) := by
 unfold upc at h ⊢
 cases hc : c[j]? with
 | none => rw [hc] at h; simp at h
 | some x => exact ⟨x, rfl, rfl⟩
theorem upc_neg {c : List Nat} {j : Nat} (h : ¬ 0 ≤ upc c j) : c.length ≤ j := by
 unfold upc at h
 cases hc : c[j]? with
 | none => exact List.getElem?_eq_none_iff.1 hc
 | some x => rw [hc] at h; simp at h
theorem chn_len (l : List Nd) : ∀ i, ((chn l i).length : Int) + 1 = dpt l i := by
 intro i
 induction i using Nat.strongRecOn with
 | ind i ih =>
  have hlt := pix_lt l i
  rw [chn_eq, dpt_eq]
  split
  ·have := ih (pix l i).toNat (by omega)
   rw [List.length_cons]; omega
  ·simp
theorem up_pix {l : List Nd} (h : Tree l) {i : Nat} (hi : i < l.length) : idx l (nat l i).par = pix l i := by
 by_cases h0 : 0 < i
 ·have hu := (h.up i h0 hi).1
  rcases idx_cases (l.take i) (nat l i).par with ⟨k, hk, h1, h2, h3⟩ | ⟨_, h3⟩
  ·rw [List.length_take] at hk
   have e : pix l i = (k : Int) := h3
   rw [e]
   refine idx_is (by omega) ?_ fun j hj => ?_
   ·rw [← h1, nat_take (by omega)]
   ·have := h2 j hj
    rwa [nat_take (by omega)] at this
  ·have : pix l i = -1 := h3
   omega
 ·obtain rfl : i = 0 := by omega
  rw [h.root.1, pix_zero]
  refine idx_no fun j hj => ?_
  have := (fm_id (h.form j hj)).1
  omega
def mtB (l : List Nd) (ts : List Ts) : Nat → Nat → Bool
 | 0, _ => false
 | k + 1, i => fuB (nat l i) (tat ts k) && (decide (k = 0) || (if (tat ts k).child = true then (chn l i).take 1 else chn l i).any (mtB l ts k))
theorem mtB_take {l : List Nd} {ts : List Ts} {n : Nat} : ∀ (k : Nat) (i : Nat), k ≤ n → mtB l (ts.take n) k i = mtB l ts k i
 | 0, _, _ => rfl
 | k + 1, i, h => by
  have e : tat (ts.take n) k = tat ts k := by unfold tat; simp only [List.getD_eq_getElem?_getD]; rw [List.getElem?_take, if_pos (by omega)]
  have ih : mtB l (ts.take n) k = mtB l ts k := funext fun x => mtB_take k x (by omega)
  simp only [mtB, e, ih]
theorem any_hit {c : List Nat} {ch : Bool} {j x : Nat} {f : Nat → Bool} (hx : c[j]? = some x) (hf : f x = true) (h0 : ch = true → j = 0) : (if ch = true then c.take 1 else c).any f = true := by
 rw [List.any_eq_true]
 refine ⟨x, ?_, hf⟩
 split
 ·have := h0 ‹_›
  subst this
  cases c with
  | nil => simp at hx
  | cons a c => simp at hx ⊢; exact hx.symm
 ·exact List.mem_of_getElem? hx
theorem any_miss {c : List Nat} {ch : Bool} {j : Nat} {f : Nat → Bool} (h : ∀ q x, q < j → c[q]? = some x → f x = false) (hj : c.length ≤ j ∨ (ch = true ∧ 1 ≤ j)) : (if ch = true then c.take 1 else c).any f = false := by
 rw [List.any_eq_false]
 intro x hx
 rw [Bool.not_eq_true]
 split at hx
 ·obtain ⟨q, hq, e⟩ := List.mem_iff_getElem.1 hx
  rw [List.length_take] at hq
  have e2 : c[q]? = some x := by
   rw [List.getElem_take] at e
   rw [← e]; exact List.getElem?_eq_getElem (by omega)
  exact h q x (by omega) e2
 ·obtain ⟨q, hq, e⟩ := List.mem_iff_getElem.1 hx
  rcases hj with hj | hj
  ·exact h q x (by omega) (by rw [← e]; exact List.getElem?_eq_getElem hq)
  ·exact absurd hj.1 ‹_›
def wt1 (t : Ts) : Int := (if t.id ≠ 0 then 10000 else 0) + (if t.cls ≠ 0 then 100 else 0) + (if t.kind ≠ 0 then 1 else 0)
def wtL (l : List Ts) : Int := (l.map wt1).sum
theorem wtL_take {l : List Ts} {i : Nat} (h : i < l.length) : wtL (l.take (i + 1)) = wtL (l.take i) + wt1 (tat l i) := by
 have e : l[i]? = some (tat l i) := by simp [tat, List.getD_eq_getElem?_getD, h]
 unfold wtL
 rw [List.take_add_one, e]
 simp
theorem wt1_range (t : Ts) : 0 ≤ wt1 t ∧ wt1 t ≤ 10101 := by
 unfold wt1
 split <;> split <;> split <;> omega
theorem wtL_range : ∀ l : List Ts, 0 ≤ wtL l ∧ wtL l ≤ 10101 * (l.length : Int)
 | [] => by simp [wtL]
 | t :: l => by
  have := wtL_range l
  have := wt1_range t
  simp only [wtL, List.map_cons, List.sum_cons, List.length_cons] at *
  omega
end
section
def putN (k : Int) (n : Nd) : List (Int × Nd) → List (Int × Nd)
 | [] => [(k, n)]
 | x :: xs => if k = x.1 then (k, n) :: xs else x :: putN k n xs
def forL (l : List Nd) : List (Int × Nd) := l.foldl (fun a n => putN n.id n a) []
def forE (a : List (Int × Nd)) : List (D × D) := a.map fun x => (.int .i64 x.1, .ag (nrow x.2))
theorem for_put (k : Int) (n : Nd) : ∀ a : List (Int × Nd), mput (.int .i64 k) (.ag (nrow n)) (forE a) = some (forE (putN k n a))
 | [] => rfl
 | x :: xs => by
  have ih := for_put k n xs
  unfold forE at ih ⊢
  simp only [List.map_cons, mput, keq_int, putN]
  by_cases h : k = x.1
  ·simp [h]
  ·simp [h, ih]
theorem for_put' (n : Nd) (a : List (Int × Nd)) : mput (.int .i64 n.id) (.ag [.int .i64 n.id, .int .i64 n.par, .int .i64 n.kind, .int .i64 n.cls, .str n.txt]) (forE a) = some (forE (putN n.id n a)) := for_put n.id n a
theorem forL_take {l : List Nd} {i : Nat} (h : i < l.length) : forL (l.take (i + 1)) = putN (nat l i).id (nat l i) (forL (l.take i)) := by
 have e : l[i]? = some (nat l i) := by simp [nat, List.getD_eq_getElem?_getD, h]
 unfold forL
 rw [List.take_add_one, e, List.foldl_append]
 rfl
theorem putN_new {k : Int} {n : Nd} : ∀ {a : List (Int × Nd)}, (∀ x ∈ a, k ≠ x.1) → putN k n a = a ++ [(k, n)]
 | [], _ => rfl
 | x :: xs, h => by
  rw [putN, if_neg (h x (by simp)), putN_new fun y hy => h y (List.mem_cons_of_mem _ hy)]
  rfl
theorem mem_nat {l : List Nd} {n : Nd} (h : n ∈ l) : ∃ j, j < l.length ∧ nat l j = n := by
 obtain ⟨j, hj, e⟩ := List.mem_iff_getElem.1 h
 exact ⟨j, hj, by simp [nat, List.getD_eq_getElem?_getD, hj, e]⟩
theorem forL_tree {l : List Nd} (hT : Tree l) : ∀ i, i ≤ l.length → forL (l.take i) = (l.take i).map fun n => (n.id, n)
 | 0, _ => rfl
 | i + 1, h => by
  have e : l[i]? = some (nat l i) := by simp [nat, List.getD_eq_getElem?_getD, show i < l.length by omega]
  rw [forL_take (by omega), forL_tree hT i (by omega), putN_new, List.take_add_one, e, List.map_append]
  ·rfl
  ·intro x hx
   obtain ⟨n, hn, rfl⟩ := List.mem_map.1 hx
   obtain ⟨j, hj, rfl⟩ := mem_nat hn
   rcases idx_cases (l.take i) (nat l i).id with ⟨k, hk, h1, h2, h3⟩ | ⟨h2, _⟩
   ·have := hT.once i (by omega); omega
   ·exact fun e => h2 j hj e.symm
def ndk (l : List Nd) (k : Int) : Nd := if 0 ≤ idx l k then nat l (idx l k).toNat else nd0
theorem fore_find {k : Int} : ∀ {l : List Nd} {i : Nat}, i < l.length → (nat l i).id = k → (∀ j, j < i → (nat l j).id ≠ k) → ((l.map fun n => (n.id, n)).find? fun x => decide (k = x.1)) = some (k, nat l i)
 | [], _, h, _, _ => by simp at h
 | n :: l, 0, _, h1, _ => by
  have e : n.id = k := h1
  simp [e, nat]
 | n :: l, i + 1, h, h1, h2 => by
  have e : n.id ≠ k := h2 0 (by omega)
  have := fore_find (k := k) (l := l) (i := i) (by simpa using h) h1 fun j hj => h2 (j + 1) (by omega)
  simp only [List.map_cons, List.find?_cons]
  rw [decide_eq_false (fun x => e x.symm)]
  simpa [nat] using this
theorem fore_none {k : Int} {l : List Nd} (h : ∀ j, j < l.length → (nat l j).id ≠ k) : ((l.map fun n => (n.id, n)).find? fun x => decide (k = x.1)) = none := by
 rw [List.find?_eq_none]
 intro x hx
 obtain ⟨n, hn, rfl⟩ := List.mem_map.1 hx
 obtain ⟨j, hj, rfl⟩ := mem_nat hn
 simpa using fun e => h j hj e.symm
theorem for_get {l : List Nd} (hT : Tree l) (k : Int) : mget (.int .i64 k) (forE (forL l)) = some (if 0 ≤ idx l k then some (.ag (nrow (ndk l k))) else none) := by
 have e := forL_tree hT l.length (Nat.le_refl _)
 rw [List.take_length] at e
 rw [e]
 have := mget_map (fun k => .int .i64 k) (fun n : Nd => .ag (nrow n)) keq_int k (l.map fun n => (n.id, n))
 unfold forE
 rw [this]
 unfold ndk
 rcases idx_cases l k with ⟨i, hi, h1, h2, h3⟩ | ⟨h2, h3⟩
 ·rw [fore_find hi h1 h2, h3]
  simp
 ·rw [fore_none h2, h3]
  simp
theorem for_look (l : List Nd) (k : Int) : lookD true (.ag [.int .i64 0, .int .i64 0, .int .i64 0, .int .i64 0, .str []]) (if 0 ≤ idx l k then some (.ag (nrow (ndk l k))) else none) = .tup [.ag (nrow (ndk l k)), .bool (decide (0 ≤ idx l k))] := by
 by_cases h : 0 ≤ idx l k
 ·simp [h, lookD]
 ·rw [if_neg h, lookD_n]
  simp [h, ndk, nrow, nd0]
theorem for_look' (l : List Nd) (k : Int) : lookD false (.ag [.int .i64 0, .int .i64 0, .int .i64 0, .int .i64 0, .str []]) (if 0 ≤ idx l k then some (.ag (nrow (ndk l k))) else none) = .ag (nrow (ndk l k)) := by
 by_cases h : 0 ≤ idx l k
 ·simp [h, lookD]
 ·rw [if_neg h, lookD_fn]
  simp [h, ndk, nrow, nd0]
def cur (l : List Nd) (i j : Nat) : Nat := (i :: chn l i).getD j 0
theorem cur_succ {l : List Nd} {i j x : Nat} (h : (chn l i)[j]? = some x) : cur l i (j + 1) = x := by
 unfold cur
 simp [List.getD_eq_getElem?_getD, h]
theorem cur_pix {l : List Nd} {i j : Nat} (h : j ≤ (chn l i).length) : pix l (cur l i j) = upc (chn l i) j ∧ cur l i j ≤ i := by
 cases j with
 | zero => exact ⟨chn_zero l i, Nat.le_refl _⟩
 | succ j =>
  have e : (chn l i)[j]? = some (chn l i)[j] := List.getElem?_eq_getElem (by omega)
  rw [cur_succ e]
  obtain ⟨h1, h2⟩ := chn_step l i e
  exact ⟨h1, by omega⟩
theorem par_zero {l : List Nd} (hT : Tree l) {i : Nat} (hi : i < l.length) : (nat l i).par = 0 ↔ ¬ 0 ≤ pix l i := by
 by_cases h0 : 0 < i
 ·have hu := (hT.up i h0 hi).1
  refine ⟨fun e => ?_, fun h => absurd hu h⟩
  have := up_pix hT hi
  rw [e] at this
  rw [idx_no] at this
  ·omega
  ·intro j hj
   have := (fm_id (hT.form j hj)).1
   omega
 ·obtain rfl : i = 0 := by omega
  rw [hT.root.1, pix_zero]
  simp
theorem idx_self {l : List Nd} (hT : Tree l) {i : Nat} (hi : i < l.length) : idx l (nat l i).id = i := by
 refine idx_is hi rfl fun j hj => ?_
 rcases idx_cases (l.take i) (nat l i).id with ⟨k, hk, h1, h2, h3⟩ | ⟨h2, _⟩
 ·have := hT.once i hi; omega
 ·have := h2 j (by rw [List.length_take]; omega)
  rwa [nat_take hj] at this
end
section
attribute [local go_sem] List.length_map rowAt_n nrow rowAt_t trow rowAt_i irow
attribute [local go_sem] pl_getF pl_lookF pl_lookF' foldI
theorem rmat_s (l : List Nd) (ts : List Ts) (t u : Tok) (i k : Nat) (hT : Tree l) (hi : i < l.length) (hk : ts.length = k + 1) (hk8 : k ≤ 100) (ih : 0 < k → ∀ (j : Nat) (v : Tok), j < l.length → PCall Tryz.prog (.func 191) [.sl 5 (l.map nrow) t, .sl 4 ((ts.take k).map trow) v, .int .i64 j] (.bool (mtB l ts k j))) : PCall Tryz.prog (.func 191) [.sl 5 (l.map nrow) t, .sl 4 (ts.map trow) u, .int .i64 i] (.bool (mtB l ts (k + 1) i)) := by
 have hil : (i : Int) < (l.length : Int) := by omega
 have hlast : IntKind.wrap .i64 ((ts.length : Int) - 1) = (k : Int) := by rw [w64 (by omega)]; omega
 have hkl : (k : Int) < (ts.length : Int) := by omega
 have hpx : idx l (nat l i).par = upc (chn l i) 0 := (up_pix hT hi).trans (chn_zero l i)
 have hms : mtB l ts (k + 1) i = (fuB (nat l i) (tat ts k) && (decide (k = 0) || (if (tat ts k).child = true then (chn l i).take 1 else chn l i).any (mtB l ts k))) := rfl
 have hl4 := hT.len.2
 have hkn : ((k : Nat) : Int) ≤ (ts.length : Int) := by omega
 refine PCall.le ?_
 refine fn_ Tryz.func191 (by rfl) (by rfl) (rs := [.tmp 6]) (by rfl) (by simp [Tryz.f191]) ?_
 refine sr_ [0, 1, 2] [] [] fun κ ξ hκ hξ => ?_
 simp +decide only [go_sem]
 refine hκ _ _ ?_
 refine sr_ [0, 1, 2, 7] [] [] fun κ ξ hκ hξ => ?_
 simp +decide only [go_sem, hlast]
 refine hκ _ _ ?_
 refine srd_ [0, 1, 2, 7, 8] [] [22] [] fun κ ξ hκ hξ => ?_
 simp +decide only [go_sem, hil, hkl]
 repeat with_reducible refine an_ ?_
 refine scallF (rful_w _ _) ?_
 simp +decide only [go_sem]
 refine hκ _ _ ?_
 refine sq ?_
 refine sr_ [0, 1, 2, 7, 8, 28] [] [(2, 25)] fun κ ξ hκ hξ => ?_
 simp +decide only [go_sem]
 refine hκ _ _ ?_
 refine cd_ (fun c0 => ?_) (fun c0 => ?_)
 ·try simp only [go_sem] at c0
  refine sr_ [6] [] [] fun κ ξ hκ hξ => ?_
  simp +decide only [go_sem]
  refine hκ _ _ ?_
  refine rt ?_
  refine retE ?_
  simp +decide only [go_sem, resD, resV, hil, hlast, hkl, hpx, hkn, c0]
  rw [hms]
  cases hf : fuB (nat l i) (tat ts k) <;> simp [hf] at c0 ⊢
  exact .inl (by omega)
 ·try simp only [go_sem] at c0
  refine sk ?_
  refine sr_ [0, 1, 7, 9] [] [] fun κ ξ hκ hξ => ?_
  simp +decide only [go_sem, hil, c0]
  repeat with_reducible refine an_ ?_
  refine callF (ridx2_w _ _ _) ?_
  simp +decide only [go_sem, hpx]
  refine hκ _ _ ?_
  refine sq ?_
  refine bl ?_
  obtain ⟨hfu, hk0⟩ : fuB (nat l i) (tat ts k) = true ∧ k ≠ 0 := by
   cases hf : fuB (nat l i) (tat ts k) <;> simp [hf] at c0 ⊢
   omega
  refine lp (α := Nat) (fun j => mk [(0, .sl 5 (l.map nrow) t), (1, .sl 4 (ts.map trow) u), (7, .int .i64 k), (9, .int .i64 (upc (chn l i) j))]) (fun _ => []) (fun j => j ≤ (chn l i).length ∧ (∀ q x, q < j → (chn l i)[q]? = some x → mtB l ts k x = false) ∧ ((tat ts k).child = true → j = 0)) (fun j => (chn l i).length - j) 0 ⟨⟨by omega, fun q x h => by omega, fun _ => rfl⟩, EnvLe.of_eq rfl, .refl _⟩ ?_
  rintro j ⟨hj, hno, hch⟩
  refine sq ?_
  refine sr_ [0, 1, 7, 9, 38] [] [] fun κ ξ hκ hξ => ?_
  simp +decide only [go_sem]
  refine hκ _ _ ?_
  refine cd_ (fun c1 => ?_) (fun c1 => ?_)
  ·simp only [go_sem] at c1
   obtain ⟨x, hx, hux⟩ := upc_pos c1
   obtain ⟨hs, hxi⟩ := chn_step l i hx
   have hxl : (x : Int) < (l.length : Int) := by omega
   have hxp : idx l (nat l x).par = upc (chn l i) (j + 1) := (up_pix hT (by omega)).trans hs
   refine sk ?_
   refine bl ?_
   refine sr_ [0, 1, 7, 9, 10] [] [] fun κ ξ hκ hξ => ?_
   simp +decide only [go_sem, hkn, hux]
   repeat with_reducible refine an_ ?_
   refine callF (ih (by omega) x _ (by omega)) ?_
   simp +decide only [go_sem]
   refine hκ _ _ ?_
   refine sq ?_
   refine sr_ [0, 1, 7, 9, 45] [] [] fun κ ξ hκ hξ => ?_
   simp +decide only [go_sem]
   refine hκ _ _ ?_
   refine cd_ (fun c2 => ?_) (fun c2 => ?_)
   ·try simp only [go_sem] at c2
    refine sr_ [6] [] [] fun κ ξ hκ hξ => ?_
    simp +decide only [go_sem, c2]
    refine hκ _ _ ?_
    refine rt ?_
    refine retE ?_
    simp +decide only [go_sem, resD, resV, hil, hlast, hkl, hpx, hkn, c0, c1, hux, hxl, hxp, c2]
    rw [hms, hfu, any_hit hx (by simpa using c2) hch]; simp
   ·try simp only [go_sem] at c2
    refine sk ?_
    refine sq ?_
    refine sr_ [0, 1, 7, 9, 50] [] [] fun κ ξ hκ hξ => ?_
    simp +decide only [go_sem, hkl, c2]
    repeat with_reducible refine an_ ?_
    refine hκ _ _ ?_
    refine cd_ (fun c3 => ?_) (fun c3 => ?_)
    ·try simp only [go_sem] at c3
     refine sr_ [6] [] [] fun κ ξ hκ hξ => ?_
     simp +decide only [go_sem, c3]
     refine hκ _ _ ?_
     refine rt ?_
     refine retE ?_
     simp +decide only [go_sem, resD, resV, hil, hlast, hkl, hpx, hkn, c0, c1, hux, hxl, hxp, c2, c3]
     rw [hms, hfu, any_miss (j := j + 1) (fun q y hq hy => by
       rcases Nat.lt_succ_iff_lt_or_eq.1 hq with h | rfl
       · exact hno q y h hy
       · rw [hx] at hy; cases hy; simpa using c2) (.inr ⟨by simpa using c3, by omega⟩)]
     simp [hk0]
    ·try simp only [go_sem] at c3
     refine sk ?_
     refine rr_ [0, 1, 7, 9] [] [] fun κ ξ hκ hξ => ?_
     simp +decide only [go_sem, hxl, c3]
     repeat with_reducible refine an_ ?_
     refine callF (ridx2_w _ _ _) ?_
     simp +decide only [go_sem, hxp]
     refine hκ _ _ ?_
     have hjl := (List.getElem?_eq_some_iff.1 hx).1
     refine ⟨j + 1, ⟨⟨by omega, fun q y hq hy => ?_, fun h => by simp [h] at c3⟩, by omega⟩, EnvLe.of_eq rfl, .refl _⟩
     rcases Nat.lt_succ_iff_lt_or_eq.1 hq with h | rfl
     ·exact hno q y h hy
     ·rw [hx] at hy; cases hy; simpa using c2
  ·simp only [go_sem] at c1
   refine ex ?_
   refine sr_ [6] [] [] fun κ ξ hκ hξ => ?_
   simp +decide only [go_sem, c1]
   refine hκ _ _ ?_
   refine rt ?_
   refine retE ?_
   simp +decide only [go_sem, resD, resV, hil, hlast, hkl, hpx, hkn, c0, c1]
   rw [hms, hfu, any_miss (j := j) hno (.inl (upc_neg c1))]
   simp [hk0]
theorem rmat_w {l : List Nd} (hT : Tree l) : ∀ (k : Nat) (ts : List Ts) (t u : Tok) (i : Nat), k ≤ 100 → ts.length = k + 1 → i < l.length → PCall Tryz.prog (.func 191) [.sl 5 (l.map nrow) t, .sl 4 (ts.map trow) u, .int .i64 i] (.bool (mtB l ts ts.length i))
 | 0, ts, t, u, i, h8, hk, hi => by rw [hk]; exact rmat_s l ts t u i 0 hT hi hk h8 (fun h => by omega)
 | k + 1, ts, t, u, i, h8, hk, hi => by
  rw [hk]
  refine rmat_s l ts t u i (k + 1) hT hi hk h8 fun _ j v hj => ?_
  have hl : (ts.take (k + 1)).length = k + 1 := by rw [List.length_take]; omega
  have := rmat_w hT k (ts.take (k + 1)) t v j (by omega) hl hj
  rw [hl, mtB_take _ _ (Nat.le_refl _)] at this
  exact this
theorem rmch_w (l : List Nd) (ts : List Ts) (t u : Tok) (x : Int) : PCall Tryz.prog (.func 155) [.sl 5 (l.map nrow) t, .sl 4 (ts.map trow) u, .int .i64 x] (.tup [.bool (treB l && selB ts && decide (0 ≤ idx l x) && mtB l ts ts.length (idx l x).toNat), .int .i64 (if (treB l && selB ts) = true then (if 0 ≤ idx l x then 0 else 4) else 1)]) := by
 refine PCall.le ?_
 refine fn_ Tryz.func155 (by rfl) (by rfl) (rs := [.tmp 6, .tmp 7]) (by rfl) (by simp [Tryz.f155]) ?_
 refine sr_ [0, 1, 2] [] [] fun κ ξ hκ hξ => ?_
 simp +decide only [go_sem]
 refine hκ _ _ ?_
 refine sr_ [0, 1, 2, 8] [] [] fun κ ξ hκ hξ => ?_
 simp +decide only [go_sem]
 refine callF (rtre_w _ _) ?_
 simp +decide only [go_sem]
 refine hκ _ _ ?_
 refine sr_ [0, 1, 2, 8, 9] [] [] fun κ ξ hκ hξ => ?_
 simp +decide only [go_sem]
 refine callF (rsel_w _ _) ?_
 simp +decide only [go_sem]
 refine hκ _ _ ?_
 refine sq ?_
 refine sr_ [0, 1, 2, 20] [] [(2, 17)] fun κ ξ hκ hξ => ?_
 simp +decide only [go_sem]
 refine hκ _ _ ?_
 refine cd_ (fun c0 => ?_) (fun c0 => ?_)
 ·skip
  refine sr_ [6, 7] [] [] fun κ ξ hκ hξ => ?_
  simp +decide only [go_sem, c0]
  refine hκ _ _ ?_
  refine rt ?_
  refine retE ?_
  simp +decide only [go_sem, resD, resV, c0]
  cases h1 : treB l <;> cases h2 : selB ts <;> simp [h1, h2] at c0 ⊢
 ·have hv : treB l = true ∧ selB ts = true := by
   cases h1 : treB l <;> cases h2 : selB ts <;> simp [h1, h2] at c0 ⊢
  obtain ⟨hv1, hv2⟩ := hv
  have hT := treB_true.1 hv1
  obtain ⟨⟨hk1, hk2⟩, -, -⟩ := sel_true.1 hv2
  obtain ⟨k, hk⟩ : ∃ k, ts.length = k + 1 := ⟨ts.length - 1, by omega⟩
  have hl4 := hT.len.2
  refine sk ?_
  refine sr_ [0, 1, 10] [] [] fun κ ξ hκ hξ => ?_
  simp +decide only [go_sem, c0]
  refine callF (ridx2_w _ _ _) ?_
  simp +decide only [go_sem]
  refine hκ _ _ ?_
  refine sq ?_
  refine sr_ [0, 1, 10, 25] [] [] fun κ ξ hκ hξ => ?_
  simp +decide only [go_sem]
  refine hκ _ _ ?_
  refine cd_ (fun c1 => ?_) (fun c1 => ?_)
  ·simp only [go_sem] at c1
   refine sr_ [6, 7] [] [] fun κ ξ hκ hξ => ?_
   simp +decide only [go_sem, c1]
   refine hκ _ _ ?_
   refine rt ?_
   refine retE ?_
   simp +decide only [go_sem, resD, resV, c0, c1]
   simp [hv1, hv2]
   omega
  ·simp only [go_sem] at c1
   obtain ⟨i, hi⟩ : ∃ i : Nat, idx l x = (i : Int) := ⟨(idx l x).toNat, by omega⟩
   have hil := idx_lt l x
   refine sk ?_
   refine sr_ [6, 7] [] [] fun κ ξ hκ hξ => ?_
   simp +decide only [go_sem, hi]
   refine callF (rmat_w hT k ts _ _ i (by omega) hk (by omega)) ?_
   simp +decide only [go_sem]
   refine hκ _ _ ?_
   refine rt ?_
   refine retE ?_
   simp +decide only [go_sem, resD, resV, c0, c1, hi]
   simp [hv1, hv2, hi]
theorem rwt_w (ts : List Ts) (u : Tok) : PCall Tryz.prog (.func 158) [.sl 4 (ts.map trow) u] (.tup [.int .i64 (if selB ts = true then wtL ts else 0), .int .i64 (if selB ts = true then 0 else 1)]) := by
 refine PCall.le ?_
 refine fn_ Tryz.func158 (by rfl) (by rfl) (rs := [.tmp 2, .tmp 3]) (by rfl) (by simp [Tryz.f158]) ?_
 refine sr_ [0] [] [] fun κ ξ hκ hξ => ?_
 simp +decide only [go_sem]
 refine hκ _ _ ?_
 refine sr_ [0, 4] [] [] fun κ ξ hκ hξ => ?_
 simp +decide only [go_sem]
 refine callF (rsel_w _ _) ?_
 simp +decide only [go_sem]
 refine hκ _ _ ?_
 refine sq ?_
 refine sr_ [0, 10] [] [] fun κ ξ hκ hξ => ?_
 simp +decide only [go_sem]
 refine hκ _ _ ?_
 refine cd_ (fun c0 => ?_) (fun c0 => ?_)
 ·try simp only [go_sem] at c0
  refine sr_ [2, 3] [] [] fun κ ξ hκ hξ => ?_
  simp +decide only [go_sem, c0]
  refine hκ _ _ ?_
  refine rt ?_
  refine retE ?_
  simp +decide only [go_sem, resD, resV, c0]
  all_goals simp_all
 ·try simp only [go_sem] at c0
  refine sk ?_
  refine sr_ [0, 5] [] [] fun κ ξ hκ hξ => ?_
  simp +decide only [go_sem, c0]
  refine hκ _ _ ?_
  refine sq ?_
  refine sr_ [0, 5, 6] [] [] fun κ ξ hκ hξ => ?_
  simp +decide only [go_sem]
  refine hκ _ _ ?_
  refine bl ?_
  have hv : selB ts = true := by simpa using c0
  obtain ⟨⟨hk1, hk2⟩, -, -⟩ := sel_true.1 hv
  refine lp (α := Nat) (fun i => mk [(0, .sl 4 (ts.map trow) u), (5, .int .i64 (wtL (ts.take i))), (6, .int .i64 i)]) (fun _ => []) (fun i => i ≤ ts.length) (fun i => ts.length - i) 0 ⟨by omega, EnvLe.of_eq rfl, .refl _⟩ ?_
  intro i hi
  have hwr := wtL_range (ts.take i)
  rw [List.length_take] at hwr
  refine sq ?_
  refine sr_ [0, 5, 6, 14] [] [] fun κ ξ hκ hξ => ?_
  simp +decide only [go_sem]
  refine hκ _ _ ?_
  refine cd_ (fun c1 => ?_) (fun c1 => ?_)
  ·try simp only [go_sem] at c1
   refine sk ?_
   refine sq ?_
   refine bl ?_
   refine sq ?_
   refine sr_ [0, 5, 6, 22] [] [] fun κ ξ hκ hξ => ?_
   simp +decide only [go_sem, c1]
   repeat with_reducible refine an_ ?_
   refine hκ _ _ ?_
   refine cd_ (fun c2 => ?_) (fun c2 => ?_)
   ·try simp only [go_sem] at c2
    refine rr_ [0, 5, 6] [] [] fun κ ξ hκ hξ => ?_
    simp +decide only [go_sem, c2]
    refine hκ _ _ ?_
    refine sq ?_
    refine sr_ [0, 5, 6, 30] [] [] fun κ ξ hκ hξ => ?_
    simp +decide only [go_sem, c1]
    repeat with_reducible refine an_ ?_
    refine hκ _ _ ?_
    refine cd_ (fun c3 => ?_) (fun c3 => ?_)
    ·try simp only [go_sem] at c3
     refine rr_ [0, 5, 6] [] [] fun κ ξ hκ hξ => ?_
     simp +decide only [go_sem, c3]
     refine hκ _ _ ?_
     refine sr_ [0, 5, 6, 38] [] [] fun κ ξ hκ hξ => ?_
     simp +decide only [go_sem, c1]
     repeat with_reducible refine an_ ?_
     refine hκ _ _ ?_
     refine cd_ (fun c4 => ?_) (fun c4 => ?_)
     ·try simp only [go_sem] at c4
      refine rr_ [0, 5, 6] [] [] fun κ ξ hκ hξ => ?_
      simp +decide only [go_sem, c4]
      refine hκ _ _ ?_
      refine rr_ [0, 5, 6] [] [] fun κ ξ hκ hξ => ?_
      simp +decide only [go_sem]
      refine hκ _ _ ?_
      refine ⟨i + 1, ⟨by omega, by omega⟩, EnvLe.of_eq ?_, .refl _⟩
      have hw : ∀ z : Int, 0 ≤ z → z ≤ 200000 → IntKind.wrap .i64 z = z := fun z h1 h2 => w64 (by omega)
      rw [hw ((i : Int) + 1) (by omega) (by omega)]
      try simp (disch := omega) only [hw]
      rw [wtL_take (by omega)]
      unfold wt1
      clear hw hwr
      simp [*, Int.add_assoc]
     ·try simp only [go_sem] at c4
      refine sk ?_
      refine rr_ [0, 5, 6] [] [] fun κ ξ hκ hξ => ?_
      simp +decide only [go_sem, c4]
      refine hκ _ _ ?_
      refine ⟨i + 1, ⟨by omega, by omega⟩, EnvLe.of_eq ?_, .refl _⟩
      have hw : ∀ z : Int, 0 ≤ z → z ≤ 200000 → IntKind.wrap .i64 z = z := fun z h1 h2 => w64 (by omega)
      rw [hw ((i : Int) + 1) (by omega) (by omega)]
      try simp (disch := omega) only [hw]
      rw [wtL_take (by omega)]
      unfold wt1
      clear hw hwr
      simp [*, Int.add_assoc]
    ·try simp only [go_sem] at c3
     refine sk ?_
     refine sr_ [0, 5, 6, 38] [] [] fun κ ξ hκ hξ => ?_
     simp +decide only [go_sem, c1, c3]
     repeat with_reducible refine an_ ?_
     refine hκ _ _ ?_
     refine cd_ (fun c5 => ?_) (fun c5 => ?_)
     ·try simp only [go_sem] at c5
      refine rr_ [0, 5, 6] [] [] fun κ ξ hκ hξ => ?_
      simp +decide only [go_sem, c5]
      refine hκ _ _ ?_
      refine rr_ [0, 5, 6] [] [] fun κ ξ hκ hξ => ?_
      simp +decide only [go_sem]
      refine hκ _ _ ?_
      refine ⟨i + 1, ⟨by omega, by omega⟩, EnvLe.of_eq ?_, .refl _⟩
      have hw : ∀ z : Int, 0 ≤ z → z ≤ 200000 → IntKind.wrap .i64 z = z := fun z h1 h2 => w64 (by omega)
      rw [hw ((i : Int) + 1) (by omega) (by omega)]
      try simp (disch := omega) only [hw]
      rw [wtL_take (by omega)]
      unfold wt1
      clear hw hwr
      simp [*, Int.add_assoc]
     ·try simp only [go_sem] at c5
      refine sk ?_
      refine rr_ [0, 5, 6] [] [] fun κ ξ hκ hξ => ?_
      simp +decide only [go_sem, c5]
      refine hκ _ _ ?_
      refine ⟨i + 1, ⟨by omega, by omega⟩, EnvLe.of_eq ?_, .refl _⟩
      have hw : ∀ z : Int, 0 ≤ z → z ≤ 200000 → IntKind.wrap .i64 z = z := fun z h1 h2 => w64 (by omega)
      rw [hw ((i : Int) + 1) (by omega) (by omega)]
      try simp (disch := omega) only [hw]
      rw [wtL_take (by omega)]
      unfold wt1
      clear hw hwr
      simp [*, Int.add_assoc]
   ·try simp only [go_sem] at c2
    refine sk ?_
    refine sq ?_
    refine sr_ [0, 5, 6, 30] [] [] fun κ ξ hκ hξ => ?_
    simp +decide only [go_sem, c1, c2]
    repeat with_reducible refine an_ ?_
    refine hκ _ _ ?_
    refine cd_ (fun c6 => ?_) (fun c6 => ?_)
    ·try simp only [go_sem] at c6
     refine rr_ [0, 5, 6] [] [] fun κ ξ hκ hξ => ?_
     simp +decide only [go_sem, c6]
     refine hκ _ _ ?_
     refine sr_ [0, 5, 6, 38] [] [] fun κ ξ hκ hξ => ?_
     simp +decide only [go_sem, c1, c2]
     repeat with_reducible refine an_ ?_
     refine hκ _ _ ?_
     refine cd_ (fun c7 => ?_) (fun c7 => ?_)
     ·try simp only [go_sem] at c7
      refine rr_ [0, 5, 6] [] [] fun κ ξ hκ hξ => ?_
      simp +decide only [go_sem, c7]
      refine hκ _ _ ?_
      refine rr_ [0, 5, 6] [] [] fun κ ξ hκ hξ => ?_
      simp +decide only [go_sem]
      refine hκ _ _ ?_
      refine ⟨i + 1, ⟨by omega, by omega⟩, EnvLe.of_eq ?_, .refl _⟩
      have hw : ∀ z : Int, 0 ≤ z → z ≤ 200000 → IntKind.wrap .i64 z = z := fun z h1 h2 => w64 (by omega)
      rw [hw ((i : Int) + 1) (by omega) (by omega)]
      try simp (disch := omega) only [hw]
      rw [wtL_take (by omega)]
      unfold wt1
      clear hw hwr
      simp [*, Int.add_assoc]
     ·try simp only [go_sem] at c7
      refine sk ?_
      refine rr_ [0, 5, 6] [] [] fun κ ξ hκ hξ => ?_
      simp +decide only [go_sem, c7]
      refine hκ _ _ ?_
      refine ⟨i + 1, ⟨by omega, by omega⟩, EnvLe.of_eq ?_, .refl _⟩
      have hw : ∀ z : Int, 0 ≤ z → z ≤ 200000 → IntKind.wrap .i64 z = z := fun z h1 h2 => w64 (by omega)
      rw [hw ((i : Int) + 1) (by omega) (by omega)]
      try simp (disch := omega) only [hw]
      rw [wtL_take (by omega)]
      unfold wt1
      clear hw hwr
      simp [*, Int.add_assoc]
    ·try simp only [go_sem] at c6
     refine sk ?_
     refine sr_ [0, 5, 6, 38] [] [] fun κ ξ hκ hξ => ?_
     simp +decide only [go_sem, c1, c2, c6]
     repeat with_reducible refine an_ ?_
     refine hκ _ _ ?_
     refine cd_ (fun c8 => ?_) (fun c8 => ?_)
     ·try simp only [go_sem] at c8
      refine rr_ [0, 5, 6] [] [] fun κ ξ hκ hξ => ?_
      simp +decide only [go_sem, c8]
      refine hκ _ _ ?_
      refine rr_ [0, 5, 6] [] [] fun κ ξ hκ hξ => ?_
      simp +decide only [go_sem]
      refine hκ _ _ ?_
      refine ⟨i + 1, ⟨by omega, by omega⟩, EnvLe.of_eq ?_, .refl _⟩
      have hw : ∀ z : Int, 0 ≤ z → z ≤ 200000 → IntKind.wrap .i64 z = z := fun z h1 h2 => w64 (by omega)
      rw [hw ((i : Int) + 1) (by omega) (by omega)]
      try simp (disch := omega) only [hw]
      rw [wtL_take (by omega)]
      unfold wt1
      clear hw hwr
      simp [*, Int.add_assoc]
     ·try simp only [go_sem] at c8
      refine sk ?_
      refine rr_ [0, 5, 6] [] [] fun κ ξ hκ hξ => ?_
      simp +decide only [go_sem, c8]
      refine hκ _ _ ?_
      refine ⟨i + 1, ⟨by omega, by omega⟩, EnvLe.of_eq ?_, .refl _⟩
      have hw : ∀ z : Int, 0 ≤ z → z ≤ 200000 → IntKind.wrap .i64 z = z := fun z h1 h2 => w64 (by omega)
      rw [hw ((i : Int) + 1) (by omega) (by omega)]
      try simp (disch := omega) only [hw]
      rw [wtL_take (by omega)]
      unfold wt1
      clear hw hwr
      simp [*, Int.add_assoc]
  ·try simp only [go_sem] at c1
   refine ex ?_
   refine sr_ [2, 3] [] [] fun κ ξ hκ hξ => ?_
   simp +decide only [go_sem, c1]
   refine hκ _ _ ?_
   refine rt ?_
   refine retE ?_
   simp +decide only [go_sem, resD, resV, c0, c1]
   obtain rfl : i = ts.length := by omega
   rw [List.take_length]
   all_goals simp [hv]
end
section
theorem permX {α : Type} (x a b c : α) (t : List α) : (x :: a :: b :: c :: t).Perm (a :: c :: x :: b :: t) :=
 (List.Perm.swap a x _).trans ((List.perm_middle (l₁ := [x, b]) (a := c) (l₂ := t)).cons a)
attribute [local go_sem] List.length_map rowAt_n nrow rowAt_t trow rowAt_i irow
attribute [local go_sem] for_put for_put' for_look for_look'
theorem ful_w (n : Nd) (t : Ts) : PCall Tryz.prog (.func 202) [.ag (nrow n), .ag (trow t)] (.bool (fuB n t)) := by
 refine PCall.le ?_
 refine fn_ Tryz.func202 (by rfl) (by rfl) (rs := [.tmp 4]) (by rfl) (by simp [Tryz.f202]) ?_
 refine sr_ [2, 3] [2, 3] [] fun κ ξ hκ hξ => ?_
 simp +decide only [go_sem]
 refine hκ _ _ ?_
 refine sr_ [2, 3, 5] [] [] fun κ ξ hκ hξ => ?_
 simp +decide only [go_sem]
 intro b5 hb5
 refine hκ _ _ ?_
 refine sq ?_
 refine sr_ [2, 3, 5, 11] [] [] fun κ ξ hκ hξ => ?_
 simp +decide only [go_sem]
 refine hκ _ _ ?_
 refine cd_ (fun c0 => ?_) (fun c0 => ?_)
 ·try simp only [go_sem] at c0
  refine rr_ [2, 3, 5] [] [] fun κ ξ hκ hξ => ?_
  simp +decide only [go_sem, c0]
  refine hκ _ _ ?_
  refine sq ?_
  refine sr_ [2, 3, 5, 17] [] [] fun κ ξ hκ hξ => ?_
  simp +decide only [go_sem]
  refine hκ _ _ ?_
  refine cd_ (fun c1 => ?_) (fun c1 => ?_)
  ·try simp only [go_sem] at c1
   refine rr_ [2, 3, 5] [] [] fun κ ξ hκ hξ => ?_
   simp +decide only [go_sem, c1]
   refine hκ _ _ ?_
   refine sq ?_
   refine sr_ [2, 3, 5, 23] [] [] fun κ ξ hκ hξ => ?_
   simp +decide only [go_sem]
   refine hκ _ _ ?_
   refine cd_ (fun c2 => ?_) (fun c2 => ?_)
   ·try simp only [go_sem] at c2
    refine rr_ [3, 5] [] [] fun κ ξ hκ hξ => ?_
    simp +decide only [go_sem, c2]
    refine hκ _ _ ?_
    refine sr_ [4] [] [] fun κ ξ hκ hξ => ?_
    simp +decide only [go_sem]
    refine hκ _ _ ?_
    refine rt ?_
    refine retE ?_
    simp +decide only [go_sem, resD, resV, hb5, c0, c1, c2]
    all_goals congr 1
    all_goals unfold fuB
    all_goals rw [Bool.eq_iff_iff]
    all_goals simp [*]
    all_goals omega
   ·try simp only [go_sem] at c2
    refine sk ?_
    refine sr_ [4] [] [] fun κ ξ hκ hξ => ?_
    simp +decide only [go_sem, c2]
    refine hκ _ _ ?_
    refine rt ?_
    refine retE ?_
    simp +decide only [go_sem, resD, resV, hb5, c0, c1, c2]
    all_goals congr 1
    all_goals unfold fuB
    all_goals rw [Bool.eq_iff_iff]
    all_goals simp [*]
    all_goals omega
  ·try simp only [go_sem] at c1
   refine sk ?_
   refine sq ?_
   refine sr_ [2, 3, 5, 23] [] [] fun κ ξ hκ hξ => ?_
   simp +decide only [go_sem, c1]
   refine hκ _ _ ?_
   refine cd_ (fun c3 => ?_) (fun c3 => ?_)
   ·try simp only [go_sem] at c3
    refine rr_ [3, 5] [] [] fun κ ξ hκ hξ => ?_
    simp +decide only [go_sem, c3]
    refine hκ _ _ ?_
    refine sr_ [4] [] [] fun κ ξ hκ hξ => ?_
    simp +decide only [go_sem]
    refine hκ _ _ ?_
    refine rt ?_
    refine retE ?_
    simp +decide only [go_sem, resD, resV, hb5, c0, c1, c3]
    all_goals congr 1
    all_goals unfold fuB
    all_goals rw [Bool.eq_iff_iff]
    all_goals simp [*]
    all_goals omega
   ·try simp only [go_sem] at c3
    refine sk ?_
    refine sr_ [4] [] [] fun κ ξ hκ hξ => ?_
    simp +decide only [go_sem, c3]
    refine hκ _ _ ?_
    refine rt ?_
    refine retE ?_
    simp +decide only [go_sem, resD, resV, hb5, c0, c1, c3]
    all_goals congr 1
    all_goals unfold fuB
    all_goals rw [Bool.eq_iff_iff]
    all_goals simp [*]
    all_goals omega
 ·try simp only [go_sem] at c0
  refine sk ?_
  refine sq ?_
  refine sr_ [2, 3, 5, 17] [] [] fun κ ξ hκ hξ => ?_
  simp +decide only [go_sem, c0]
  refine hκ _ _ ?_
  refine cd_ (fun c4 => ?_) (fun c4 => ?_)
  ·try simp only [go_sem] at c4
   refine rr_ [2, 3, 5] [] [] fun κ ξ hκ hξ => ?_
   simp +decide only [go_sem, c4]
   refine hκ _ _ ?_
   refine sq ?_
   refine sr_ [2, 3, 5, 23] [] [] fun κ ξ hκ hξ => ?_
   simp +decide only [go_sem]
   refine hκ _ _ ?_
   refine cd_ (fun c5 => ?_) (fun c5 => ?_)
   ·try simp only [go_sem] at c5
    refine rr_ [3, 5] [] [] fun κ ξ hκ hξ => ?_
    simp +decide only [go_sem, c5]
    refine hκ _ _ ?_
    refine sr_ [4] [] [] fun κ ξ hκ hξ => ?_
    simp +decide only [go_sem]
    refine hκ _ _ ?_
    refine rt ?_
    refine retE ?_
    simp +decide only [go_sem, resD, resV, hb5, c0, c4, c5]
    all_goals congr 1
    all_goals unfold fuB
    all_goals rw [Bool.eq_iff_iff]
    all_goals simp [*]
    all_goals omega
   ·try simp only [go_sem] at c5
    refine sk ?_
    refine sr_ [4] [] [] fun κ ξ hκ hξ => ?_
    simp +decide only [go_sem, c5]
    refine hκ _ _ ?_
    refine rt ?_
    refine retE ?_
    simp +decide only [go_sem, resD, resV, hb5, c0, c4, c5]
    all_goals congr 1
    all_goals unfold fuB
    all_goals rw [Bool.eq_iff_iff]
    all_goals simp [*]
    all_goals omega
  ·try simp only [go_sem] at c4
   refine sk ?_
   refine sq ?_
   refine sr_ [2, 3, 5, 23] [] [] fun κ ξ hκ hξ => ?_
   simp +decide only [go_sem, c4]
   refine hκ _ _ ?_
   refine cd_ (fun c6 => ?_) (fun c6 => ?_)
   ·try simp only [go_sem] at c6
    refine rr_ [3, 5] [] [] fun κ ξ hκ hξ => ?_
    simp +decide only [go_sem, c6]
    refine hκ _ _ ?_
    refine sr_ [4] [] [] fun κ ξ hκ hξ => ?_
    simp +decide only [go_sem]
    refine hκ _ _ ?_
    refine rt ?_
    refine retE ?_
    simp +decide only [go_sem, resD, resV, hb5, c0, c4, c6]
    all_goals congr 1
    all_goals unfold fuB
    all_goals rw [Bool.eq_iff_iff]
    all_goals simp [*]
    all_goals omega
   ·try simp only [go_sem] at c6
    refine sk ?_
    refine sr_ [4] [] [] fun κ ξ hκ hξ => ?_
    simp +decide only [go_sem, c6]
    refine hκ _ _ ?_
    refine rt ?_
    refine retE ?_
    simp +decide only [go_sem, resD, resV, hb5, c0, c4, c6]
    all_goals congr 1
    all_goals unfold fuB
    all_goals rw [Bool.eq_iff_iff]
    all_goals simp [*]
    all_goals omega
theorem prep_w (l : List Nd) (ts : List Ts) (t u : Tok) : RCall Tryz.prog (.func 178) [.sl 5 (l.map nrow) t, .sl 4 (ts.map trow) u] [] (fun (b : Nat) => .tup [.mp b, .bool (selB ts && treB l)]) (fun (b : Nat) => [(b, .map (forE (forL l)))]) (fun (b : Nat) => True) := by
 refine RCall.ok fun hok => ?_
 simp only [okAll, D.ok, okRows, and_true, true_and, lim_eq, inR_i64', inR_i32', inR_u8', inR_u16', inR_u64'] at hok
 obtain ⟨hl, hr⟩ := hok; rw [List.length_map] at hl
 refine fn_ Tryz.func178 (by rfl) (by rfl) (rs := [.tmp 4, .tmp 5]) (by rfl) (by simp [Tryz.f178]) ?_
 refine sr_ [0, 1] [] [] fun κ ξ hκ hξ => ?_
 simp +decide only [go_sem]
 refine hκ _ _ ?_
 refine sr_ [0, 1, 6] [] [] fun κ ξ hκ hξ => ?_
 simp +decide only [go_sem]
 intro b9 hb9
 refine hκ _ _ ?_
 refine sq ?_
 refine sr_ [0, 1, 6, 10, 11, 12] [] [] fun κ ξ hκ hξ => ?_
 simp +decide only [go_sem]
 refine hκ _ _ ?_
 refine bl ?_
 refine lp (α := Nat) (fun i => mk [(0, .sl 5 (l.map nrow) t), (1, .sl 4 (ts.map trow) u), (6, .mp b9), (10, .sl 5 (l.map nrow) t), (11, .int .i64 l.length), (12, .int .i64 i)]) (fun i => [(b9, .map (forE (forL (l.take i))))]) (fun i => i ≤ l.length) (fun i => l.length - i) 0 ⟨by omega, EnvLe.of_eq rfl, .refl _⟩ ?_
 intro i hi
 refine sr_ [0, 1, 6, 10, 11, 12, 13] [] [] fun κ ξ hκ hξ => ?_
 simp +decide only [go_sem]
 refine hκ _ _ ?_
 refine sq ?_
 refine cd_ (fun c0 => ?_) (fun c0 => ?_)
 ·try simp only [go_sem] at c0
  refine sk ?_
  refine sq ?_
  refine bl ?_
  refine srz_ [(8, [])] [0, 1, 6, 8, 10, 11, 12] [] [] fun κ ξ hκ hξ => ?_
  simp +decide only [go_sem, c0]
  repeat with_reducible refine an_ ?_
  intro b8 hb8
  refine hκ _ _ ?_
  refine rr_ [0, 1, 6, 10, 11, 12] [] [] fun κ ξ hκ hξ => ?_
  simp +decide only [go_sem]
  refine hκ _ _ ?_
  refine rr_ [0, 1, 6, 10, 11, 12] [] [] fun κ ξ hκ hξ => ?_
  simp +decide only [go_sem]
  refine hκ _ _ ?_
  refine ⟨i + 1, ⟨by omega, by omega⟩, EnvLe.of_eq (by rw [w64 (by omega)]; rfl), ?_⟩
  rw [forL_take (by omega)]; exact .refl _
 ·try simp only [go_sem] at c0
  refine ex ?_
  refine sr_ [4, 5] [] [(3, 24)] fun κ ξ hκ hξ => ?_
  simp +decide only [go_sem, c0]
  refine callF (sel_w _ _) ?_
  simp +decide only [go_sem]
  refine vo_gc ?_
  simp +decide only [go_sem]
  refine gcF (tre_w _ _) ?_
  simp +decide only [go_sem]
  refine hκ _ _ ?_
  have hil : i = l.length := by omega
  subst hil
  rw [List.take_length]
  refine rt ?_
  refine retR (b9) ?_ ?_ ?_
  ·first | exact .refl _ | exact List.nil_sublist _ | exact List.sublist_cons_of_sublist _ (.refl _) | exact ((List.Sublist.refl _).cons _).cons _ | (simp [*]; done) | skip
  ·first | trivial | assumption | omega | (simp; done) | skip
  simp +decide only [go_sem, resD, resV, hb9, c0]
  all_goals simp
theorem above_w (n : Nd) (bm : Nat) : RCall Tryz.prog (.func 203) [.mp bm, .ag (nrow n)] [] (fun (b : Nat) => .fn (.func 207) [] [.ptr b 0, .el [.mp bm]]) (fun (b : Nat) => [(b, .cells (nrow n))]) (fun (b : Nat) => True) := by
 refine fn_ Tryz.func203 (by rfl) (by rfl) (rs := [.tmp 4]) (by rfl) (by simp [Tryz.f203]) ?_
 refine sr_ [2, 3] [2] [] fun κ ξ hκ hξ => ?_
 simp +decide only [go_sem]
 intro b3 hb3
 refine hκ _ _ ?_
 refine sr_ [4] [] [] fun κ ξ hκ hξ => ?_
 simp +decide only [go_sem]
 refine hκ _ _ ?_
 refine rt ?_
 refine retR (b3) ?_ ?_ ?_
 ·first | exact .refl _ | exact List.nil_sublist _ | exact List.sublist_cons_of_sublist _ (.refl _) | exact ((List.Sublist.refl _).cons _).cons _ | (simp [*]; done) | skip
 ·first | trivial | assumption | omega | (simp; done) | skip
 simp +decide only [go_sem, resD, resV, hb3]
 all_goals simp
theorem above1_w (l : List Nd) (hT : Tree l) (i : Nat) (hi : i < l.length) (bn bm : Nat) (hne : ¬ bm = bn) (τ : Store) (y : Fn) (Jx : Store → Prop) (A : Nat → Prop) (hA : A 0) (hy : ∀ (z : List D) (j x : Nat), (chn l i)[j]? = some x → A j → ACall Tryz.prog y [.ag (nrow (nat l x))] ((bn, .cells z) :: (bm, .map (forE (forL l))) :: τ) fun r τ' => (r = .ret (.bool true) ∧ A (j + 1) ∧ τ' = (bn, .cells z) :: (bm, .map (forE (forL l))) :: τ) ∨ (r = .ret (.bool false) ∧ Jx τ')) : ACall Tryz.prog (.func 207) [.fn y [] [], .ptr bn 0, .el [.mp bm]] ((bn, .cells (nrow (nat l i))) :: (bm, .map (forE (forL l))) :: τ) (fun r τ' => (∃ d, r = .ret d) ∧ ((∃ z, τ' = (bn, .cells z) :: (bm, .map (forE (forL l))) :: τ ∧ A (chn l i).length) ∨ Jx τ')) := by
 have hne' : ¬ bn = bm := fun e => hne e.symm
 have hfg := for_get hT
 refine fn_ Tryz.func207 (by rfl) (by rfl) (rs := []) (by rfl) (by simp [Tryz.f207]) ?_
 refine bl ?_
 refine lp (α := Nat) (fun j => mk [(0, .fn y [] []), (1, .ptr bn 0), (2, .el [.mp bm])]) (fun j => (bn, .cells (nrow (nat l (cur l i j)))) :: (bm, .map (forE (forL l))) :: τ) (fun j => j ≤ (chn l i).length ∧ A j) (fun j => (chn l i).length - j) 0 ⟨⟨by omega, hA⟩, EnvLe.of_eq rfl, .refl _⟩ ?_
 rintro j ⟨hj, hAj⟩
 obtain ⟨hcp, hcl⟩ := cur_pix (l := l) (i := i) hj
 have hup := up_pix hT (show cur l i j < l.length by omega)
 have hpz := par_zero hT (show cur l i j < l.length by omega)
 refine sq ?_
 refine sr_ [0, 1, 2, 6] [] [] fun κ ξ hκ hξ => ?_
 simp +decide only [go_sem, hne']
 refine hκ _ _ ?_
 refine cd_ (fun c0 => ?_) (fun c0 => ?_)
 ·simp only [go_sem] at c0
  obtain ⟨x, hx, hux⟩ : ∃ x : Nat, (chn l i)[j]? = some x ∧ upc (chn l i) j = (x : Int) := upc_pos (by rw [← hcp]; by_cases h : 0 ≤ pix l (cur l i j); exact h; exact absurd (hpz.2 h) c0)
  have hnk : ndk l (nat l (cur l i j)).par = nat l x := by
   unfold ndk
   rw [hup, hcp, hux, if_pos (by omega), Int.toNat_natCast]
  have hge : 0 ≤ idx l (nat l (cur l i j)).par := by rw [hup, hcp, hux]; omega
  refine sk ?_
  refine bl ?_
  refine sr_ [0, 1, 2] [] [] fun κ ξ hκ hξ => ?_
  simp +decide only [go_sem, hne, hne', hfg, c0, hnk, hge, if_true, lookD_fs]
  refine hκ _ _ ?_
  refine sr_ [0, 1, 2, 14] [] [] fun κ ξ hκ hξ => ?_
  simp +decide only [go_sem, hne', if_true]
  refine callY (hy _ j x hx hAj) ?_
  intro bb τ2 ht hf
  simp +decide only [go_sem, if_true]
  refine hκ _ _ ?_
  refine cd_ (fun c1 => ?_) (fun c1 => ?_)
  ·try simp only [go_sem] at c1
   refine rt ?_
   exact ⟨trivial, _, .refl _, ⟨_, rfl⟩, .inr (hf (by simpa using c1))⟩
  ·try simp only [go_sem] at c1
   refine sk ?_
   have hjl := (List.getElem?_eq_some_iff.1 hx).1
   obtain ⟨hA1, rfl⟩ := ht (by simpa using c1)
   refine ⟨j + 1, ⟨⟨by omega, hA1⟩, by omega⟩, EnvLe.of_l ⟨rfl, rfl, rfl, trivial⟩, ?_⟩
   rw [cur_succ hx]; exact .refl _
 ·simp only [go_sem] at c0
  refine ex ?_
  refine ⟨trivial, _, .refl _, ⟨_, rfl⟩, .inl ⟨_, rfl, ?_⟩⟩
  have e : j = (chn l i).length := by
   have := upc_neg (c := chn l i) (j := j) (by rw [← hcp]; exact hpz.1 (by simpa using c0))
   omega
  exact e ▸ hAj
theorem mt_s (l : List Nd) (ts : List Ts) (u : Tok) (hT : Tree l) (bm bq : Nat) (hq : ¬ bm = bq) (k i : Nat) (hi : i < l.length) (hk : k + 1 ≤ ts.length) (hk8 : k ≤ 100) (ih : 0 < k → ∀ j, j < l.length → RCall Tryz.prog (.func 201) [.ag (nrow (nat l j)), .int .i64 ((k : Nat) : Int), .el [.sl 4 (ts.map trow) u], .el [.mp bm], .ptr bq 0] ((bm, .map (forE (forL l))) :: (bq, .cells [.fn (.func 201) [] [.el [.sl 4 (ts.map trow) u], .el [.mp bm], .ptr bq 0]]) :: []) (fun _ : Unit => .bool (mtB l ts k j)) (fun _ => ((bm, .map (forE (forL l))) :: (bq, .cells [.fn (.func 201) [] [.el [.sl 4 (ts.map trow) u], .el [.mp bm], .ptr bq 0]]) :: [])) (fun _ => True)) : RCall Tryz.prog (.func 201) [.ag (nrow (nat l i)), .int .i64 (((k + 1) : Nat) : Int), .el [.sl 4 (ts.map trow) u], .el [.mp bm], .ptr bq 0] ((bm, .map (forE (forL l))) :: (bq, .cells [.fn (.func 201) [] [.el [.sl 4 (ts.map trow) u], .el [.mp bm], .ptr bq 0]]) :: []) (fun _ : Unit => .bool (mtB l ts (k + 1) i)) (fun _ => ((bm, .map (forE (forL l))) :: (bq, .cells [.fn (.func 201) [] [.el [.sl 4 (ts.map trow) u], .el [.mp bm], .ptr bq 0]]) :: [])) (fun _ => True) := by
 have hkw : IntKind.wrap .i64 (((k + 1 : Nat) : Int) - 1) = (k : Int) := by rw [w64 (by omega)]; omega
 have hk1 : ((k + 1 : Nat) : Int) = (k : Int) + 1 := by omega
 have hq' : ¬ bq = bm := fun e => hq e.symm
 have hms : mtB l ts (k + 1) i = (fuB (nat l i) (tat ts k) && (decide (k = 0) || (if (tat ts k).child = true then (chn l i).take 1 else chn l i).any (mtB l ts k))) := rfl
 have hkl : (k : Int) < (ts.length : Int) := by omega
 have hkl0 : ((0 : Nat) : Int) < (ts.length : Int) := by omega
 have hkl1 : (0 : Int) < (ts.length : Int) := by omega
 refine fn_ Tryz.func201 (by rfl) (by rfl) (rs := [.cell 7 4]) (by rfl) (by simp [Tryz.f201]) ?_
 refine sr_ [2, 3, 4, 5, 6, 7] [5, 6] [] fun κ ξ hκ hξ => ?_
 simp +decide only [go_sem]
 intro b7 hb7
 refine hκ _ _ ?_
 refine sq ?_
 refine srd_ [2, 3, 4, 5, 6, 7, 20] [] [15] [(8, 17)] fun κ ξ hκ hξ => ?_
 simp +decide only [go_sem, hkw, hkl]
 repeat with_reducible refine an_ ?_
 refine scallF (ful_w _ _) ?_
 simp +decide only [go_sem]
 refine hκ _ _ ?_
 refine cd_ (fun c0 => ?_) (fun c0 => ?_)
 ·try simp only [go_sem] at c0
  refine srd_ [7] [] [28] [(2, 23)] fun κ ξ hκ hξ => ?_
  simp +decide only [go_sem, hkl0, hkl1]
  refine vd_gc (by rfl) ?_
  simp +decide only [go_sem]
  refine gcF (ful_w _ _) ?_
  simp +decide only [go_sem]
  refine hκ _ _ ?_
  refine rt ?_
  refine retR (()) ?_ ?_ ?_
  ·first | exact .refl _ | exact List.nil_sublist _ | exact List.sublist_cons_of_sublist _ (.refl _) | exact ((List.Sublist.refl _).cons _).cons _ | (simp [*]; done) | skip
  ·first | trivial | assumption | omega | (simp; done) | skip
  simp +decide only [go_sem, resD, resV, hkw, hq, hq', hkl, hkl0, hkl1, hb7, c0]
  congr 1
  rw [hms]
  by_cases hk0 : k = 0
  ·subst hk0; simp
  ·have h1 : ¬ ((k + 1 : Nat) : Int) = 1 := by omega
   have hf := c0.resolve_right h1
   rw [hf, decide_eq_false h1]; rfl
 ·try simp only [go_sem] at c0
  refine sk ?_
  refine sq ?_
  refine sr_ [2, 4, 6, 7, 32] [] [] fun κ ξ hκ hξ => ?_
  simp +decide only [go_sem, c0]
  refine callR ((above_w (nat l i) bm).frame _) fun b32 _ => ?_
  simp +decide only [go_sem]
  refine hκ _ _ ?_
  refine bl ?_
  refine nodupW fun hnd => ?_
  simp only [Store.keys, List.cons_append, List.nil_append, List.map_cons, List.map_nil, List.nodup_cons, List.mem_cons, List.not_mem_nil, or_false, not_or] at hnd
  obtain ⟨⟨hn1, hn2, hn3⟩, ⟨hn4, hn5⟩, -⟩ := hnd
  have hk0 : k ≠ 0 := by have := c0.2; omega
  have hfu := c0.1
  refine rfG (ps := [33]) (Z := List D) (nrow (nat l i)) (fun z j τ => τ = (b32, .cells z) :: (b7, .cells [.bool false]) :: ((bm, .map (forE (forL l))) :: (bq, .cells [.fn (.func 201) [] [.el [.sl 4 (ts.map trow) u], .el [.mp bm], .ptr bq 0]]) :: []) ∧ (∀ q x, q < j → (chn l i)[q]? = some x → mtB l ts k x = false) ∧ ((tat ts k).child = true → j = 0)) (fun e τ => e = .ret ∧ ∃ z, τ = (b32, .cells z) :: (b7, .cells [.bool (mtB l ts (k + 1) i)]) :: ((bm, .map (forE (forL l))) :: (bq, .cells [.fn (.func 201) [] [.el [.sl 4 (ts.map trow) u], .el [.mp bm], .ptr bq 0]]) :: [])) (by rfl) Tryz.func207 (by rfl) (by rfl) (xs := (chn l i).map fun x => [.ag (nrow (nat l x))]) ?_ (by intro p hp; simp at hp; subst hp; decide) (fun x hx => by simp only [List.mem_map] at hx; obtain ⟨p, _, rfl⟩ := hx; rfl) ⟨rfl, fun q x hq => by omega, fun _ => rfl⟩ ?_ ?_ ?_
  ·intro y bx Jx h τ ⟨σ', e1, e2, h1⟩
   subst e2
   subst e1
   refine ACall.perm (permX _ _ _ _ _) ?_
   refine ACall.mono (above1_w l hT i hi b32 bm (fun e => hn2 e.symm) _ y Jx (fun j => (∀ q x, q < j → (chn l i)[q]? = some x → mtB l ts k x = false) ∧ ((tat ts k).child = true → j = 0)) h1 ?_) ?_
   ·intro z j x hx hA
    refine ACall.perm (permX _ _ _ _ _).symm ?_
    refine ACall.mono (h z j _ (by rw [List.getElem?_map, hx]; rfl) _ ⟨_, rfl, rfl, hA⟩) ?_
    rintro r τ' (⟨rfl, σ', rfl, rfl, hA'⟩ | ⟨rfl, hj⟩)
    ·exact ⟨_, permX _ _ _ _ _, .inl ⟨rfl, hA', rfl⟩⟩
    ·exact ⟨_, .refl _, .inr ⟨rfl, hj⟩⟩
   ·rintro r τ' ⟨hd, (⟨z, rfl, hA⟩ | hj)⟩
    ·exact ⟨_, (permX _ _ _ _ _).symm, hd, .inl ⟨z, _, rfl, rfl, by rw [List.length_map]; exact hA⟩⟩
    ·exact ⟨_, .refl _, hd, .inr hj⟩
  ·intro z L j x' hx' τ hτ
   obtain ⟨rfl, hno, hch⟩ := hτ
   obtain ⟨x, hx, rfl⟩ : ∃ x, (chn l i)[j]? = some x ∧ x' = [.ag (nrow (nat l x))] := by
    rw [List.getElem?_map] at hx'; cases hc : (chn l i)[j]? with
     | none => rw [hc] at hx'; cases hx'
     | some x => rw [hc] at hx'; exact ⟨x, rfl, by simpa using hx'.symm⟩
   have hxi := (chn_step l i hx).2
   have hxl : x < l.length := by omega
   refine rrz_ [(8, [])] [2, 4, 6, 7, 8] [] [] fun κ ξ hκ hξ => ?_
   simp +decide only [go_sem]
   intro b8 hb8
   refine hκ _ _ ⟨rfl, ?_⟩
   refine bl ?_
   refine sq ?_
   refine sr_ [2, 4, 6, 7, 38] [] [] fun κ ξ hκ hξ => ?_
   simp +decide only [go_sem, hkw, hq', hb7, Ne.symm hn3]
   refine callR ((ih (by omega) x hxl).frameL [(b32, _), (b7, _)]) fun _ _ => ?_
   simp +decide only [go_sem]
   refine hκ _ _ ?_
   refine cd_ (fun c1 => ?_) (fun c1 => ?_)
   ·try simp only [go_sem] at c1
    refine sr_ [7] [] [] fun κ ξ hκ hξ => ?_
    simp +decide only [go_sem, hn4, hn5, Ne.symm hn1, c1]
    refine hκ _ _ ?_
    refine rt ?_
    have hr : mtB l ts (k + 1) i = true := by
     rw [hms, hfu, any_hit hx (by simpa using c1) hch]; simp
    exact ⟨rfl, z, by rw [hr]⟩
   ·try simp only [go_sem] at c1
    refine sk ?_
    refine sr_ [2, 4, 6, 7, 44] [] [] fun κ ξ hκ hξ => ?_
    simp +decide only [go_sem, hkw, hkl, c1]
    repeat with_reducible refine an_ ?_
    refine hκ _ _ ?_
    refine cd_ (fun c2 => ?_) (fun c2 => ?_)
    ·try simp only [go_sem] at c2
     refine sr_ [7] [] [] fun κ ξ hκ hξ => ?_
     simp +decide only [go_sem, hn4, hn5, Ne.symm hn1, c2]
     refine hκ _ _ ?_
     refine rt ?_
     have hr : mtB l ts (k + 1) i = false := by
      rw [hms, hfu, any_miss (j := j + 1) (fun q y hq hy => by
        rcases Nat.lt_succ_iff_lt_or_eq.1 hq with h | rfl
        · exact hno q y h hy
        · rw [hx] at hy; cases hy; simpa using c1) (.inr ⟨by simpa using c2, by omega⟩)]
      simp [hk0]
     exact ⟨rfl, z, by rw [hr]⟩
    ·try simp only [go_sem] at c2
     refine sk ?_
     refine ⟨rfl, fun q y hq hy => ?_, fun h => by simp [h] at c2⟩
     rcases Nat.lt_succ_iff_lt_or_eq.1 hq with h | rfl
     ·exact hno q y h hy
     ·rw [hx] at hy; cases hy; simpa using c1
  ·rintro z τ ⟨rfl, hno, hch⟩
   rw [List.length_map] at hno hch
   have hr : mtB l ts (k + 1) i = false := by rw [hms, hfu, any_miss hno (.inl (Nat.le_refl _))]; simp [hk0]
   refine sr_ [7] [] [] fun κ ξ hκ hξ => ?_
   simp +decide only [go_sem, hn4, hn5, Ne.symm hn1]
   refine hκ _ _ ?_
   refine rt ?_
   refine retR (()) ?_ ?_ ?_
   ·first | exact .refl _ | exact List.nil_sublist _ | exact List.sublist_cons_of_sublist _ (.refl _) | exact ((List.Sublist.refl _).cons _).cons _ | (simp [*]; done) | skip
   ·first | trivial | assumption | omega | (simp; done) | skip
   simp +decide only [go_sem, resD, resV, hkw, hq, hq', hkl, hkl0, hkl1, hb7, c0, hn1, hn2, hn3, hn4, hn5, Ne.symm hn1, Ne.symm hn2, Ne.symm hn3, Ne.symm hn4, Ne.symm hn5]
   rw [hr]
  ·rintro e τ ⟨rfl, z, rfl⟩ _ _
   refine retR () ?_ ?_ ?_
   ·exact ((List.Sublist.refl _).cons _).cons _
   ·trivial
   simp +decide only [go_sem, resD, resV, hkw, hq, hq', hkl, hkl0, hkl1, hb7, c0, hn1, hn2, hn3, hn4, hn5, Ne.symm hn1, Ne.symm hn2, Ne.symm hn3, Ne.symm hn4, Ne.symm hn5]
end
section
theorem mt_w (l : List Nd) (ts : List Ts) (u : Tok) (hT : Tree l) (bm bq : Nat) (hq : ¬ bm = bq) : ∀ (k i : Nat), k ≤ 100 → i < l.length → k + 1 ≤ ts.length → RCall Tryz.prog (.func 201) [.ag (nrow (nat l i)), .int .i64 (((k + 1) : Nat) : Int), .el [.sl 4 (ts.map trow) u], .el [.mp bm], .ptr bq 0] ((bm, .map (forE (forL l))) :: (bq, .cells [(.fn (.func 201) [] [.el [.sl 4 (ts.map trow) u], .el [.mp bm], .ptr bq 0])]) :: []) (fun _ : Unit => .bool (mtB l ts (k + 1) i)) (fun _ => ((bm, .map (forE (forL l))) :: (bq, .cells [(.fn (.func 201) [] [.el [.sl 4 (ts.map trow) u], .el [.mp bm], .ptr bq 0])]) :: [])) (fun _ => True)
 | 0, i, h8, hi, hk => mt_s l ts u hT bm bq hq 0 i hi hk h8 (fun h => by omega)
 | k + 1, i, h8, hi, hk => mt_s l ts u hT bm bq hq (k + 1) i hi hk h8 (fun _ j hj => mt_w l ts u hT bm bq hq k j (by omega) hj (by omega))
def wc (w n b : Int) : Int := if n = 0 then w else IntKind.wrap .i64 (w + b)
theorem wc_sum {w : Int} (t : Ts) (h : 0 ≤ w ∧ w ≤ 100000) : wc (wc (wc w t.id 10000) t.cls 100) t.kind 1 = w + wt1 t := by
 have hw : ∀ z : Int, 0 ≤ z → z ≤ 200000 → IntKind.wrap .i64 z = z := fun z h1 h2 => w64 (by omega)
 unfold wc wt1
 by_cases h1 : t.id = 0 <;> by_cases h2 : t.cls = 0 <;> by_cases h3 : t.kind = 0 <;> simp only [h1, h2, h3, if_true, if_false, ne_eq, not_true_eq_false, not_false_eq_true] <;> (try simp (disch := omega) only [hw]) <;> omega
attribute [local go_sem] List.length_map rowAt_n nrow rowAt_t trow rowAt_i irow
attribute [local go_sem] for_put for_put' for_look for_look'
theorem mtr_w (ts : List Ts) (u : Tok) (bm : Nat) : RCall Tryz.prog (.func 179) [.mp bm, .sl 4 (ts.map trow) u] [] (fun (bq : Nat) => (.fn (.func 201) [] [.el [.sl 4 (ts.map trow) u], .el [.mp bm], .ptr bq 0])) (fun (bq : Nat) => [(bq, .cells [(.fn (.func 201) [] [.el [.sl 4 (ts.map trow) u], .el [.mp bm], .ptr bq 0])])]) (fun (bq : Nat) => True) := by
 refine fn_ Tryz.func179 (by rfl) (by rfl) (rs := [.tmp 4]) (by rfl) (by simp [Tryz.f179]) ?_
 refine sr_ [2, 3] [2, 3] [] fun κ ξ hκ hξ => ?_
 simp +decide only [go_sem]
 refine hκ _ _ ?_
 refine sr_ [2, 3, 5] [] [] fun κ ξ hκ hξ => ?_
 simp +decide only [go_sem]
 intro b5 hb5
 refine hκ _ _ ?_
 refine sr_ [5] [] [] fun κ ξ hκ hξ => ?_
 simp +decide only [go_sem]
 refine hκ _ _ ?_
 refine sr_ [4] [] [] fun κ ξ hκ hξ => ?_
 simp +decide only [go_sem]
 refine hκ _ _ ?_
 refine rt ?_
 refine retR (b5) ?_ ?_ ?_
 ·first | exact .refl _ | exact List.nil_sublist _ | exact List.sublist_cons_of_sublist _ (.refl _) | exact ((List.Sublist.refl _).cons _).cons _ | (simp [*]; done) | skip
 ·first | trivial | assumption | omega | (simp; done) | skip
 simp +decide only [go_sem, resD, resV, hb5]
 all_goals simp
theorem mch_w (l : List Nd) (ts : List Ts) (t u : Tok) (x : Int) : PCall Tryz.prog (.func 135) [.sl 5 (l.map nrow) t, .sl 4 (ts.map trow) u, .int .i64 x] (.tup [.bool (treB l && selB ts && decide (0 ≤ idx l x) && mtB l ts ts.length (idx l x).toNat), .int .i64 (if (treB l && selB ts) = true then (if 0 ≤ idx l x then 0 else 4) else 1)]) := by
 refine PCall.le ?_
 refine fn_ Tryz.func135 (by rfl) (by rfl) (rs := [.tmp 6, .tmp 7]) (by rfl) (by simp [Tryz.f135]) ?_
 refine sr_ [0, 1, 2] [] [] fun κ ξ hκ hξ => ?_
 simp +decide only [go_sem]
 refine hκ _ _ ?_
 refine sr_ [1, 2, 8, 9] [] [] fun κ ξ hκ hξ => ?_
 simp +decide only [go_sem]
 refine callR (prep_w l ts t u) fun bm _ => ?_
 simp +decide only [go_sem]
 refine hκ _ _ ?_
 refine sq ?_
 refine sr_ [1, 2, 8, 19] [] [] fun κ ξ hκ hξ => ?_
 simp +decide only [go_sem]
 refine hκ _ _ ?_
 refine cd_ (fun c0 => ?_) (fun c0 => ?_)
 ·skip
  refine sr_ [6, 7] [] [] fun κ ξ hκ hξ => ?_
  simp +decide only [go_sem, c0]
  refine hκ _ _ ?_
  refine rt ?_
  refine retE ?_
  simp +decide only [go_sem, resD, resV, c0]
  cases h1 : treB l <;> cases h2 : selB ts <;> simp [h1, h2] at c0 ⊢
 ·have hv : treB l = true ∧ selB ts = true := by
   cases h1 : treB l <;> cases h2 : selB ts <;> simp [h1, h2] at c0 ⊢
  obtain ⟨hv1, hv2⟩ := hv
  have hT := treB_true.1 hv1
  obtain ⟨⟨hk1, hk2⟩, -, -⟩ := sel_true.1 hv2
  obtain ⟨k, hk⟩ : ∃ k, ts.length = k + 1 := ⟨ts.length - 1, by omega⟩
  have hl4 := hT.len.2
  have hfg := for_get hT
  refine sk ?_
  by_cases hix : 0 ≤ idx l x
  ·obtain ⟨i, hi⟩ : ∃ i : Nat, idx l x = (i : Int) := ⟨(idx l x).toNat, by omega⟩
   have hil := idx_lt l x
   have hnk : ndk l x = nat l i := by unfold ndk; rw [if_pos hix, hi, Int.toNat_natCast]
   refine srz_ [(10, [])] [1, 8, 10, 11] [] [] fun κ ξ hκ hξ => ?_
   simp +decide only [go_sem, c0, hfg, hix, if_true, lookD_s, hnk]
   intro b10 hb10
   refine hκ _ _ ?_
   refine sq ?_
   refine sr_ [1, 8, 10, 27] [] [] fun κ ξ hκ hξ => ?_
   simp +decide only [go_sem, if_true]
   refine hκ _ _ ?_
   refine cdf (by rfl) ?_
   refine sk ?_
   refine sq ?_
   refine rgt [6, 7] [] [] [] [0, 1, 3, 4, 5, 2, 6, 7, 8] .fin (by kernel_rfl) (by kernel_rfl) (Pk.cons rfl (Pk.cons rfl (Pk.cons rfl (Pk.cons rfl (Pk.cons rfl (Pk.cons rfl (Pk.cons rfl (Pk.cons rfl (Pk.cons rfl (Pk.nil)))))))))) ?_; intro κ ξ hκ hξ
   simp +decide only [go_sem, if_true]
   refine callR ((mtr_w ts u bm).frame _).nodup fun bq hnd => ?_
   have hnd := hnd.2
   simp only [Store.keys, List.cons_append, List.nil_append, List.map_cons, List.map_nil, List.nodup_cons, List.mem_cons, List.not_mem_nil, or_false] at hnd
   have hqm : ¬ bq = bm := hnd.1
   have hmq : ¬ bm = bq := fun e => hqm e.symm
   have hqk : ¬ bq ∈ Store.keys [(bm, Box.map (forE (forL l)))] := by simp [Store.keys, hqm]
   simp +decide only [go_sem, if_true, hqk, hk]
   refine callR (RCall.perm (mt_w l ts u hT bm bq hmq k i (by omega) (by omega) (by omega)) (List.Perm.swap _ _ _) (fun _ => List.Perm.swap _ _ _)) fun _ _ => ?_
   simp +decide only [go_sem, if_true]
   refine SET_fin ?_
   simp +decide only [go_sem, if_true]
   refine hκ _ _ ?_
   refine rt ?_
   refine retE ?_
   simp +decide only [go_sem, resD, resV, c0, hfg, hix, if_true, lookD_s, hnk, hb10, hqm, hmq, hqk, hk]
   all_goals simp [hv1, hv2, hi, hk]
  ·skip
   refine srz_ [(10, [])] [1, 8, 10, 11] [] [] fun κ ξ hκ hξ => ?_
   simp +decide only [go_sem, c0, hfg, hix, if_false, lookD_n]
   intro b10 hb10
   refine hκ _ _ ?_
   refine sq ?_
   refine sr_ [1, 8, 10, 27] [] [] fun κ ξ hκ hξ => ?_
   simp +decide only [go_sem, if_false]
   refine hκ _ _ ?_
   refine cdt (by rfl) ?_
   refine sr_ [6, 7] [] [] fun κ ξ hκ hξ => ?_
   simp +decide only [go_sem, if_false]
   refine hκ _ _ ?_
   refine rt ?_
   refine retE ?_
   simp +decide only [go_sem, resD, resV, c0, hfg, hix, if_false, lookD_n, hb10]
   all_goals simp [hv1, hv2, hix]
theorem wc_w (n b w : Int) (bw : Nat) : RCall Tryz.prog (.func 183) [.int .i64 n, .int .i64 b, .ptr bw 0] [(bw, .cells [.int .i64 w])] (fun (_ : Unit) => .tup []) (fun (_ : Unit) => [(bw, .cells [.int .i64 (wc w n b)])]) (fun (_ : Unit) => True) := by
 refine fn_ Tryz.func183 (by rfl) (by rfl) (rs := []) (by rfl) (by simp [Tryz.f183]) ?_
 refine sr_ [1, 2, 6] [] [] fun κ ξ hκ hξ => ?_
 simp +decide only [go_sem]
 refine hκ _ _ ?_
 refine cd_ (fun c0 => ?_) (fun c0 => ?_)
 ·try simp only [go_sem] at c0
  refine rr_ [] [] [] fun κ ξ hκ hξ => ?_
  simp +decide only [go_sem, c0]
  refine hκ _ _ ?_
  rw [show wc w n b = IntKind.wrap .i64 (w + b) from if_neg c0]
  refine retRn (()) ?_ ?_ ?_
  ·first | exact .refl _ | exact List.nil_sublist _ | exact List.sublist_cons_of_sublist _ (.refl _) | exact ((List.Sublist.refl _).cons _).cons _ | (simp [*]; done) | skip
  ·first | trivial | assumption | omega | (simp; done) | skip
  simp +decide only [go_sem, resD, resV, c0]
  all_goals rfl
 ·try simp only [go_sem] at c0
  refine sk ?_
  rw [show wc w n b = w from if_pos c0]
  refine retRn (()) ?_ ?_ ?_
  ·first | exact .refl _ | exact List.nil_sublist _ | exact List.sublist_cons_of_sublist _ (.refl _) | exact ((List.Sublist.refl _).cons _).cons _ | (simp [*]; done) | skip
  ·first | trivial | assumption | omega | (simp; done) | skip
  simp +decide only [go_sem, resD, resV, c0]
  all_goals rfl
theorem swt_w (ts : List Ts) (u : Tok) : PCall Tryz.prog (.func 137) [.sl 4 (ts.map trow) u] (.tup [.int .i64 (if selB ts = true then wtL ts else 0), .int .i64 (if selB ts = true then 0 else 1)]) := by
 refine PCall.le ?_
 refine fn_ Tryz.func137 (by rfl) (by rfl) (rs := [.tmp 2, .tmp 3]) (by rfl) (by simp [Tryz.f137]) ?_
 refine sr_ [0] [] [] fun κ ξ hκ hξ => ?_
 simp +decide only [go_sem]
 refine hκ _ _ ?_
 refine sq ?_
 refine sr_ [0, 10] [] [] fun κ ξ hκ hξ => ?_
 simp +decide only [go_sem]
 refine callF (sel_w _ _) ?_
 simp +decide only [go_sem]
 refine hκ _ _ ?_
 refine cd_ (fun c0 => ?_) (fun c0 => ?_)
 ·try simp only [go_sem] at c0
  refine sr_ [2, 3] [] [] fun κ ξ hκ hξ => ?_
  simp +decide only [go_sem, c0]
  refine hκ _ _ ?_
  refine rt ?_
  refine retE ?_
  simp +decide only [go_sem, resD, resV, c0]
  all_goals simp_all
 ·try simp only [go_sem] at c0
  refine sk ?_
  refine sr_ [0, 4] [] [] fun κ ξ hκ hξ => ?_
  simp +decide only [go_sem, c0]
  intro b4 hb4
  refine hκ _ _ ?_
  refine sr_ [0, 4, 5] [] [] fun κ ξ hκ hξ => ?_
  simp +decide only [go_sem]
  refine hκ _ _ ?_
  refine sq ?_
  refine sr_ [4, 5, 12, 13, 14] [] [] fun κ ξ hκ hξ => ?_
  simp +decide only [go_sem]
  refine hκ _ _ ?_
  refine bl ?_
  have hv : selB ts = true := by simpa using c0
  obtain ⟨⟨hk1, hk2⟩, -, -⟩ := sel_true.1 hv
  refine lp (α := Nat) (fun i => mk [(4, .ptr b4 0), (5, .fn (.func 183) [] [.ptr b4 0]), (12, .sl 4 (ts.map trow) u), (13, .int .i64 ts.length), (14, .int .i64 i)]) (fun i => [(b4, .cells [.int .i64 (wtL (ts.take i))])]) (fun i => i ≤ ts.length) (fun i => ts.length - i) 0 ⟨by omega, EnvLe.of_eq rfl, .refl _⟩ ?_
  intro i hi
  have hwr := wtL_range (ts.take i)
  rw [List.length_take] at hwr
  refine sr_ [4, 5, 12, 13, 14, 15] [] [] fun κ ξ hκ hξ => ?_
  simp +decide only [go_sem]
  refine hκ _ _ ?_
  refine sq ?_
  refine cd_ (fun c1 => ?_) (fun c1 => ?_)
  ·try simp only [go_sem] at c1
   refine sk ?_
   refine sq ?_
   refine bl ?_
   refine srz_ [(7, [])] [4, 5, 7, 12, 13, 14] [] [] fun κ ξ hκ hξ => ?_
   simp +decide only [go_sem, c1]
   repeat with_reducible refine an_ ?_
   intro b7 hb7
   refine hκ _ _ ?_
   refine sr_ [4, 5, 7, 12, 13, 14] [] [] fun κ ξ hκ hξ => ?_
   simp +decide only [go_sem]
   refine callR (wc_w _ _ _ _) fun _ _ => ?_
   simp +decide only [go_sem]
   refine hκ _ _ ?_
   refine sr_ [4, 5, 7, 12, 13, 14] [] [] fun κ ξ hκ hξ => ?_
   simp +decide only [go_sem]
   refine callR (wc_w _ _ _ _) fun _ _ => ?_
   simp +decide only [go_sem]
   refine hκ _ _ ?_
   refine rr_ [4, 5, 12, 13, 14] [] [] fun κ ξ hκ hξ => ?_
   simp +decide only [go_sem]
   refine callR (wc_w _ _ _ _) fun _ _ => ?_
   simp +decide only [go_sem]
   refine hκ _ _ ?_
   refine rr_ [4, 5, 12, 13, 14] [] [] fun κ ξ hκ hξ => ?_
   simp +decide only [go_sem]
   refine hκ _ _ ?_
   refine ⟨i + 1, ⟨by omega, by omega⟩, EnvLe.of_eq (by rw [w64 (by omega)]; rfl), ?_⟩
   rw [wtL_take (by omega), ← wc_sum (tat ts i) (by omega)]; exact .refl _
  ·try simp only [go_sem] at c1
   refine ex ?_
   refine sr_ [2, 3] [] [] fun κ ξ hκ hξ => ?_
   simp +decide only [go_sem, c1]
   refine hκ _ _ ?_
   refine rt ?_
   refine retE ?_
   simp +decide only [go_sem, resD, resV, c0, hb4, c1]
   obtain rfl : i = ts.length := by omega
   rw [List.take_length]
   all_goals simp [hv]
end
section
def mchB (l : List Nd) (ts : List Ts) (x : Int) : Bool := treB l && selB ts && decide (0 ≤ idx l x) && mtB l ts ts.length (idx l x).toNat
def mchE (l : List Nd) (ts : List Ts) (x : Int) : Int := if (treB l && selB ts) = true then (if 0 ≤ idx l x then 0 else 4) else 1
def holB (l : List Tm) (w s lg bx : Int) : Bool := conB l && rdB w s lg && isBx bx && l.all fun t => hdB t w s lg bx
def holE (l : List Tm) (w s lg bx : Int) : Int := if (conB l && rdB w s lg && isBx bx) = true then 0 else 1
def wtB (ts : List Ts) : Int := if selB ts = true then wtL ts else 0
def wtE (ts : List Ts) : Int := if selB ts = true then 0 else 1
theorem mch2_w (l : List Nd) (ts : List Ts) (t u : Tok) (x : Int) : PCall Tryz.prog (.func 135) [.sl 5 (l.map nrow) t, .sl 4 (ts.map trow) u, .int .i64 x] (.tup [.bool (mchB l ts x), .int .i64 (mchE l ts x)]) := mch_w l ts t u x
theorem hol2_w (l : List Tm) (t : Tok) (w s lg bx : Int) : PCall Tryz.prog (.func 136) [.sl 2 (l.map tmrow) t, .ag [.int .i64 w, .int .i64 s, .int .i64 lg], .int .i64 bx] (.tup [.bool (holB l w s lg bx), .int .i64 (holE l w s lg bx)]) := hol_w l t w s lg bx
theorem swt2_w (ts : List Ts) (u : Tok) : PCall Tryz.prog (.func 137) [.sl 4 (ts.map trow) u] (.tup [.int .i64 (wtB ts), .int .i64 (wtE ts)]) := swt_w ts u
def ruM (l : List Nd) (x w s lg bx : Int) (r : Ru) : Bool := mchB l r.tests x && holB r.whe w s lg bx
def ruS (rs : List Ru) (i : Nat) : List D := [.int .i64 (ruat rs i).lay, .int .i64 (wtB (ruat rs i).tests), .int .i64 i]
def mL (p : Nat → Bool) (y : Nat → List D) (n : Nat) : List (List D) := ((List.range n).filter p).map y
theorem mL_yes {p : Nat → Bool} {y : Nat → List D} {n : Nat} (h : p n = true) : mL p y (n + 1) = mL p y n ++ [y n] := by
 unfold mL
 rw [List.range_succ, List.filter_append, List.map_append]
 simp [h]
theorem mL_no {p : Nat → Bool} {y : Nat → List D} {n : Nat} (h : p n = false) : mL p y (n + 1) = mL p y n := by
 unfold mL
 rw [List.range_succ, List.filter_append, List.map_append]
 simp [h]
theorem mL_pre (p : Nat → Bool) (y : Nat → List D) (n : Nat) : ∀ k, ∃ r, mL p y (n + k) = mL p y n ++ r
 | 0 => ⟨[], by simp⟩
 | k + 1 => by
  obtain ⟨r, h⟩ := mL_pre p y n k
  cases e : p (n + k) with
  | true => exact ⟨r ++ [y (n + k)], by rw [← Nat.add_assoc, mL_yes e, h, List.append_assoc]⟩
  | false => exact ⟨r, by rw [← Nat.add_assoc, mL_no e, h]⟩
theorem mL_at {p : Nat → Bool} {y : Nat → List D} {n N : Nat} (hn : n < N) (h : p n = true) : (mL p y N)[(mL p y n).length]? = some (y n) := by
 obtain ⟨r, e⟩ := mL_pre p y (n + 1) (N - (n + 1))
 rw [show n + 1 + (N - (n + 1)) = N by omega, mL_yes h] at e
 rw [e]
 simp
attribute [local go_sem] List.length_map rowAt_n nrow rowAt_t trow rowAt_i irow
attribute [local go_sem] rowAt_e rowAt_tm rowAt_dc rowAt_ru tmrow dcrow rurow
attribute [local go_sem] iD_all iD_len rw2_0 rw2_1 rw1_0 Int.toNat_one
theorem mtg_w (l : List Nd) (rs : List Ru) (x w s lg bx : Int) : PCall Tryz.prog (.func 88) [.ag [.sl 5 (l.map nrow) .no, .sl 4 (rs.map rurow) .no, .int .i64 x, .int .i64 w, .int .i64 s, .int .i64 lg, .int .i64 bx]] (.fn (.func 134) [] [.el [.sl 5 (l.map nrow) .no, .sl 4 (rs.map rurow) .no, .int .i64 x, .int .i64 w, .int .i64 s, .int .i64 lg, .int .i64 bx]]) := by
 refine PCall.le ?_
 refine fn_ Tryz.func88 (by rfl) (by rfl) (rs := [.tmp 2]) (by rfl) (by simp [Tryz.f88]) ?_
 refine sr_ [1] [1] [] fun κ ξ hκ hξ => ?_
 simp +decide only [go_sem]
 refine hκ _ _ ?_
 refine sr_ [2] [] [] fun κ ξ hκ hξ => ?_
 simp +decide only [go_sem]
 refine hκ _ _ ?_
 refine rt ?_
 refine retE ?_
 simp +decide only [go_sem, resD, resV]
 
theorem mtg1_w (l : List Nd) (rs : List Ru) (x w s lg bx : Int) (hrs : rs.length ≤ 200) : SeqC Tryz.prog (.func 134) [.el [.sl 5 (l.map nrow) .no, .sl 4 (rs.map rurow) .no, .int .i64 x, .int .i64 w, .int .i64 s, .int .i64 lg, .int .i64 bx]] (mL (fun i => ruM l x w s lg bx (ruat rs i)) (fun i => [.int .i64 i, .ag (ruS rs i)]) rs.length) := by
 intro y J Jx hy τ hJ
 refine fn_ Tryz.func134 (by rfl) (by rfl) (rs := []) (by rfl) (by simp [Tryz.f134]) ?_
 refine sr_ [0, 1, 12, 13, 14] [] [] fun κ ξ hκ hξ => ?_
 simp +decide only [go_sem]
 refine hκ _ _ ?_
 refine bl ?_
 refine lp (α := Nat × Store) (fun z => mk [(0, .fn y [] []), (1, .el [.sl 5 (l.map nrow) .no, .sl 4 (rs.map rurow) .no, .int .i64 x, .int .i64 w, .int .i64 s, .int .i64 lg, .int .i64 bx]), (12, .sl 4 (rs.map rurow) .no), (13, .int .i64 rs.length), (14, .int .i64 z.1)]) (fun z => z.2) (fun z => z.1 ≤ rs.length ∧ J (mL (fun i => ruM l x w s lg bx (ruat rs i)) (fun i => [.int .i64 i, .ag (ruS rs i)]) z.1).length z.2) (fun z => rs.length - z.1) (0, τ) ⟨⟨by simp only; omega, hJ⟩, EnvLe.of_eq rfl, .refl _⟩ ?_
 rintro ⟨i, τ'⟩ ⟨hi, hJ'⟩
 simp only at hi hJ'
 refine sr_ [0, 1, 12, 13, 14, 15] [] [] fun κ ξ hκ hξ => ?_
 simp +decide only [go_sem]
 refine hκ _ _ ?_
 refine sq ?_
 refine cd_ (fun c0 => ?_) (fun c0 => ?_)
 ·try simp only [go_sem] at c0
  refine sk ?_
  refine sq ?_
  refine bl ?_
  refine srz_ [(4, [])] [0, 1, 3, 4, 12, 13, 14] [] [] fun κ ξ hκ hξ => ?_
  simp +decide only [go_sem, c0]
  repeat with_reducible refine an_ ?_
  intro b4 hb4
  refine hκ _ _ ?_
  refine sr_ [0, 1, 3, 4, 5, 12, 13, 14] [] [] fun κ ξ hκ hξ => ?_
  simp +decide only [go_sem]
  refine callF (mch2_w _ _ _ _ _) ?_
  simp +decide only [go_sem]
  refine hκ _ _ ?_
  refine sr_ [0, 1, 3, 4, 5, 7, 12, 13, 14] [] [] fun κ ξ hκ hξ => ?_
  simp +decide only [go_sem]
  refine callF (hol2_w _ _ _ _ _ _) ?_
  simp +decide only [go_sem]
  refine hκ _ _ ?_
  refine sq ?_
  refine sr_ [0, 1, 3, 4, 12, 13, 14, 44] [] [(2, 41)] fun κ ξ hκ hξ => ?_
  simp +decide only [go_sem]
  refine hκ _ _ ?_
  refine cd_ (fun c1 => ?_) (fun c1 => ?_)
  ·simp only [go_sem] at c1
   have hpm : ruM l x w s lg bx (ruat rs i) = false := by
    unfold ruM
    rcases c1 with c | c
    ·rw [c]; rfl
    ·rw [c]; exact Bool.and_false _
   refine ex ?_
   refine rr_ [0, 1, 12, 13, 14] [] [] fun κ ξ hκ hξ => ?_
   simp +decide only [go_sem]
   refine hκ _ _ ?_
   refine ⟨(i + 1, τ'), ⟨⟨by simp only; omega, by simp only; rw [mL_no hpm]; exact hJ'⟩, by simp only; omega⟩, EnvLe.of_eq (by rw [w64 (n := (i : Int) + 1) (by omega)]; rfl), .refl _⟩
  ·simp only [go_sem] at c1
   have hpm : ruM l x w s lg bx (ruat rs i) = true := by
    unfold ruM
    rw [c1.1, c1.2]; rfl
   refine sk ?_
   refine sr_ [0, 1, 3, 4, 9, 12, 13, 14] [] [] fun κ ξ hκ hξ => ?_
   simp +decide only [go_sem, c1]
   refine callF (swt2_w _ _) ?_
   simp +decide only [go_sem]
   refine hκ _ _ ?_
   refine sr_ [0, 1, 12, 13, 14, 59] [] [] fun κ ξ hκ hξ => ?_
   simp +decide only [go_sem]
   refine callY (hy _ _ (mL_at (p := (fun i => ruM l x w s lg bx (ruat rs i))) (y := (fun i => [.int .i64 i, .ag (ruS rs i)])) (n := i) (by omega) hpm) _ hJ') ?_
   intro bb τ2 ht hf
   simp +decide only [go_sem]
   refine hκ _ _ ?_
   refine cd_ (fun c2 => ?_) (fun c2 => ?_)
   ·try simp only [go_sem] at c2
    refine rt ?_
    exact ⟨trivial, _, .refl _, ⟨_, rfl⟩, .inr (hf (by simpa using c2))⟩
   ·try simp only [go_sem] at c2
    refine sk ?_
    refine rr_ [0, 1, 12, 13, 14] [] [] fun κ ξ hκ hξ => ?_
    simp +decide only [go_sem, c2]
    refine hκ _ _ ?_
    refine ⟨(i + 1, τ2), ⟨⟨by simp only; omega, by simp only; rw [mL_yes hpm, List.length_append]; exact ht (by simpa using c2)⟩, by simp only; omega⟩, EnvLe.of_eq (by rw [w64 (n := (i : Int) + 1) (by omega)]; rfl), .refl _⟩
 ·try simp only [go_sem] at c0
  refine ex ?_
  obtain rfl : i = rs.length := by omega
  exact ⟨trivial, _, .refl _, ⟨_, rfl⟩, .inl hJ'⟩
end
section
structure Cl where
 ru : Int
 k : Int
 a : Int
 b : Int
 c : Int
 ok : Bool
def cl0 : Cl := ⟨0, 0, 0, 0, 0, false⟩
def crow (c : Cl) : List D := [.int .i64 c.ru, .int .i64 c.k, .int .i64 c.a, .int .i64 c.b, .int .i64 c.c, .bool c.ok]
def clD : List Cl → List D
 | [] => []
 | c :: l => crow c ++ clD l
def clat (o : List Cl) (p : Nat) : Cl := o.getD p cl0
theorem clD_len : ∀ o : List Cl, (clD o).length = o.length * 6
 | [] => rfl
 | c :: o => by simp only [clD, List.length_append, clD_len o, List.length_cons, crow, List.length_nil]; omega
theorem clD_drop : ∀ {o : List Cl} {p : Nat}, p < o.length → (clD o).drop (p * 6) = crow (clat o p) ++ clD (o.drop (p + 1))
 | c :: o, 0, _ => rfl
 | c :: o, p + 1, h => by
  have := clD_drop (o := o) (p := p) (by simpa using h)
  simp only [clD, crow, show (p + 1) * 6 = p * 6 + 6 by omega, List.drop_succ_cons, List.cons_append, List.nil_append]
  exact this
theorem clD_load {o : List Cl} {n : Int} (h0 : 0 ≤ n) (h : n < 33) (ho : o.length = 33) : (clD o).drop (0 + n.toNat * 6) = crow (clat o n.toNat) ++ clD (o.drop (n.toNat + 1)) := by rw [Nat.zero_add, clD_drop (by omega)]
theorem clD_putN : ∀ {o : List Cl} {p : Nat} (c : Cl), p < o.length → putCells (clD o) (p * 6) (crow c) = clD (o.set p c)
 | d :: o, 0, c, _ => by simp [putCells, clD, crow]
 | d :: o, p + 1, c, h => by
  have := clD_putN (o := o) (p := p) c (by simpa using h)
  simp only [putCells] at this ⊢
  simp only [clD, List.set_cons_succ, ← this, show (p + 1) * 6 = p * 6 + 6 by omega]
  simp [crow, show p * 6 + 6 + 6 = p * 6 + 6 + 6 from rfl]
theorem clD_put {o : List Cl} {n ru k a b c : Int} {ok : Bool} (h0 : 0 ≤ n) (h : n < 33) (ho : o.length = 33) : putCells (clD o) (0 + n.toNat * 6) [.int .i64 ru, .int .i64 k, .int .i64 a, .int .i64 b, .int .i64 c, .bool ok] = clD (o.set n.toNat ⟨ru, k, a, b, c, ok⟩) := by
 rw [Nat.zero_add]
 exact clD_putN ⟨ru, k, a, b, c, ok⟩ (by omega)
theorem clD_cell : ∀ o : List Cl, (clD o).all D.isCell = true
 | [] => rfl
 | c :: o => by simp only [clD, List.all_append, clD_cell o, crow, List.all_cons, List.all_nil, D.isCell, Bool.and_self]
theorem clD_all {o : List Cl} (h : o.length = 33) : (clD o).take 198 = clD o := List.take_of_length_le (by rw [clD_len]; omega)
theorem clD_end {o : List Cl} (h : o.length = 33) : (clD o).drop 198 = [] := List.drop_eq_nil_of_le (by rw [clD_len]; omega)
theorem scmp3_w (a b c a' b' c' : Int) (t u : Tok) : PCall Tryz.prog (.func 89) [.sl 1 [[.int .i64 a], [.int .i64 b], [.int .i64 c]] t, .sl 1 [[.int .i64 a'], [.int .i64 b'], [.int .i64 c']] u] (.int .i64 (cmpL [a, b, c] [a', b', c'])) := scmp_w [a, b, c] [a', b', c'] t u
def clU (o : Cl) (a b c : Int) : Bool := !o.ok || decide (o.a = a ∧ o.b = b ∧ o.c = c) || decide (cmpL [o.a, o.b, o.c] [a, b, c] < 0)
theorem clU_yes {o : Cl} {a b c : Int} (h : (o.ok = false ∨ o.a = a ∧ o.b = b ∧ o.c = c) ∨ cmpL [o.a, o.b, o.c] [a, b, c] < 0) : clU o a b c = true := by
 unfold clU
 rcases h with (h | h) | h
 ·rw [h]; rfl
 ·rw [decide_eq_true h]; simp
 ·rw [decide_eq_true h]; simp
theorem clU_no {o : Cl} {a b c : Int} (h : (o.ok = true ∧ (¬ o.a = a ∨ ¬ o.b = b ∨ ¬ o.c = c)) ∧ ¬ cmpL [o.a, o.b, o.c] [a, b, c] < 0) : clU o a b c = false := by
 unfold clU
 rw [h.1.1, decide_eq_false h.2, decide_eq_false (by rintro ⟨x, y, z⟩; rcases h.1.2 with k | k | k <;> contradiction)]
 rfl
def cl1 (rs : List Ru) (i : Nat) (o : List Cl) (k : Nat) : List Cl :=
 if clU (clat o (dcat (ruat rs i).decls k).prop.toNat) (ruat rs i).lay (wtB (ruat rs i).tests) i = true then o.set (dcat (ruat rs i).decls k).prop.toNat ⟨i, k, (ruat rs i).lay, wtB (ruat rs i).tests, i, true⟩ else o
def clR (rs : List Ru) (i : Nat) (o : List Cl) (n : Nat) : List Cl := (List.range n).foldl (cl1 rs i) o
theorem clR_succ (rs : List Ru) (i : Nat) (o : List Cl) (n : Nat) : clR rs i o (n + 1) = cl1 rs i (clR rs i o n) n := by
 unfold clR
 rw [List.range_succ, List.foldl_append]
 rfl
def clF (rs : List Ru) (o : List Cl) (is : List Nat) : List Cl := is.foldl (fun o i => clR rs i o (ruat rs i).decls.length) o
theorem cl1_len (rs : List Ru) (i : Nat) (o : List Cl) (k : Nat) : (cl1 rs i o k).length = o.length := by
 unfold cl1
 split <;> simp
theorem clR_len (rs : List Ru) (i : Nat) (o : List Cl) : ∀ n, (clR rs i o n).length = o.length
 | 0 => rfl
 | n + 1 => by rw [clR_succ, cl1_len, clR_len rs i o n]
theorem clF_len (rs : List Ru) : ∀ (is : List Nat) (o : List Cl), (clF rs o is).length = o.length
 | [], _ => rfl
 | i :: is, o => (clF_len rs is _).trans (clR_len rs i o _)
theorem clF_take {rs : List Ru} {o : List Cl} {is : List Nat} {n i : Nat} (h : is[n]? = some i) : clF rs o (is.take (n + 1)) = clR rs i (clF rs o (is.take n)) (ruat rs i).decls.length := by
 rw [List.take_add_one, h]
 unfold clF
 rw [List.foldl_append]
 rfl
def mI (p : Nat → Bool) (n : Nat) : List Nat := (List.range n).filter p
theorem mL_get {p : Nat → Bool} {y : Nat → List D} {n j : Nat} {z : List D} (h : (mL p y n)[j]? = some z) : ∃ i, (mI p n)[j]? = some i ∧ z = y i ∧ i < n := by
 unfold mL at h
 rw [List.getElem?_map] at h
 cases e : ((List.range n).filter p)[j]? with
 | none => rw [e] at h; cases h
 | some i =>
  rw [e] at h
  cases h
  have := List.mem_of_getElem? e
  rw [List.mem_filter, List.mem_range] at this
  exact ⟨i, e, rfl, this.1⟩
def claimsR (l : List Nd) (rs : List Ru) (x w s lg bx : Int) : List Cl := clF rs (List.replicate 33 cl0) (mI (fun i => ruM l x w s lg bx (ruat rs i)) rs.length)
theorem claims_len (l : List Nd) (rs : List Ru) (x w s lg bx : Int) : (claimsR l rs x w s lg bx).length = 33 := (clF_len ..).trans (List.length_replicate ..)
attribute [local go_sem] List.length_map rowAt_n nrow rowAt_t trow rowAt_i irow
attribute [local go_sem] rowAt_e rowAt_tm rowAt_dc rowAt_ru tmrow dcrow rurow
attribute [local go_sem] iD_all iD_len rw2_0 rw2_1 rw1_0 Int.toNat_one
attribute [local go_sem] clD_load clD_put clD_len clD_cell clD_all clD_end crow ruS
theorem clms_w (l : List Nd) (rs : List Ru) (x w s lg bx : Int) (hrs : rs.length ≤ 200) (hdl : ∀ i, i < rs.length → (ruat rs i).decls.length ≤ 40) (hps : ∀ i, i < rs.length → ∀ k, k < (ruat rs i).decls.length → 1 ≤ (dcat (ruat rs i).decls k).prop ∧ (dcat (ruat rs i).decls k).prop ≤ 32) : PCall Tryz.prog (.func 55) [.ag [.sl 5 (l.map nrow) .no, .sl 4 (rs.map rurow) .no, .int .i64 x, .int .i64 w, .int .i64 s, .int .i64 lg, .int .i64 bx]] (.ag (clD (claimsR l rs x w s lg bx))) := by
 refine PCall.le ?_
 refine fn_ Tryz.func55 (by rfl) (by rfl) (rs := [.cell 2 98]) (by rfl) (by simp [Tryz.f55]) ?_
 refine sr_ [1, 2] [1] [] fun κ ξ hκ hξ => ?_
 simp +decide only [go_sem]
 intro b2 hb2
 refine hκ _ _ ?_
 refine sr_ [1, 2, 3] [] [] fun κ ξ hκ hξ => ?_
 simp +decide only [go_sem]
 intro b3 hb3
 refine hκ _ _ ?_
 refine weak _ (EnvLe.refl _) (σ' := [(b3, .cells (clD (List.replicate 33 cl0))), (b2, .cells (clD (List.replicate 33 cl0)))]) (.refl _) ?_
 refine sq ?_
 refine sr_ [1, 2, 3, 10] [] [] fun κ ξ hκ hξ => ?_
 simp +decide only [go_sem]
 refine callF (mtg_w _ _ _ _ _ _ _) ?_
 simp +decide only [go_sem]
 refine hκ _ _ ?_
 refine bl ?_
 refine rf (ps := [11, 12]) (fun n τ => τ = [(b3, .cells (clD (clF rs (List.replicate 33 cl0) ((mI (fun i => ruM l x w s lg bx (ruat rs i)) rs.length).take n)))), (b2, .cells (clD (List.replicate 33 cl0)))]) (fun _ _ => False) (by rfl) Tryz.func134 (by rfl) (by rfl) (mtg1_w l rs x w s lg bx hrs) (by intro p hp; simp at hp; rcases hp with rfl | rfl <;> decide) (fun z hz => by simp only [mL, List.mem_map] at hz; obtain ⟨p, _, rfl⟩ := hz; rfl) (by rfl) ?_ ?_ (fun _ _ h => h.elim)
 ·intro L n z hx τ hτ
  subst hτ
  obtain ⟨i, hp, rfl, hil⟩ := mL_get hx
  have hil' : (i : Int) < rs.length := by omega
  refine sr_ [1, 2, 3, 4, 12] [] [] fun κ ξ hκ hξ => ?_
  simp +decide only [go_sem]
  refine hκ _ _ ?_
  refine rrz_ [(5, [])] [1, 2, 3, 4, 5] [] [] fun κ ξ hκ hξ => ?_
  simp +decide only [go_sem]
  intro b5 hb5
  refine hκ _ _ ⟨rfl, ?_⟩
  refine bl ?_
  refine sr_ [1, 2, 3, 4, 5, 18, 19, 20] [] [] fun κ ξ hκ hξ => ?_
  simp +decide only [go_sem, hil']
  repeat with_reducible refine an_ ?_
  refine hκ _ _ ?_
  refine bl ?_
  refine lp (α := Nat) (fun k => mk [(1, .el [.sl 5 (l.map nrow) .no, .sl 4 (rs.map rurow) .no, .int .i64 x, .int .i64 w, .int .i64 s, .int .i64 lg, .int .i64 bx]), (2, .ptr b2 0), (3, .ptr b3 0), (4, .int .i64 i), (5, .el (ruS rs i)), (18, .sl 4 ((ruat rs i).decls.map dcrow) .no), (19, .int .i64 (ruat rs i).decls.length), (20, .int .i64 k)]) (fun k => [(b3, .cells (clD (clR rs i (clF rs (List.replicate 33 cl0) ((mI (fun i => ruM l x w s lg bx (ruat rs i)) rs.length).take n)) k))), (b2, .cells (clD (List.replicate 33 cl0)))]) (fun k => k ≤ (ruat rs i).decls.length) (fun k => (ruat rs i).decls.length - k) 0 ⟨by omega, EnvLe.of_eq rfl, .refl _⟩ ?_
  rintro k hk
  refine sr_ [1, 2, 3, 4, 5, 18, 19, 20, 21] [] [] fun κ ξ hκ hξ => ?_
  simp +decide only [go_sem]
  refine hκ _ _ ?_
  refine sq ?_
  refine cd_ (fun c0 => ?_) (fun c0 => ?_)
  ·simp only [go_sem] at c0
   have hp0 : 0 ≤ (dcat (ruat rs i).decls k).prop := by have := hps i hil k (by omega); omega
   have hp1 : (dcat (ruat rs i).decls k).prop < 33 := by have := hps i hil k (by omega); omega
   have hlk : (clR rs i (clF rs (List.replicate 33 cl0) ((mI (fun i => ruM l x w s lg bx (ruat rs i)) rs.length).take n)) k).length = 33 := by rw [clR_len, clF_len, List.length_replicate]
   refine sk ?_
   refine sq ?_
   refine bl ?_
   refine srz_ [(7, [])] [1, 2, 3, 4, 5, 6, 7, 18, 19, 20] [] [] fun κ ξ hκ hξ => ?_
   simp +decide only [go_sem, c0]
   repeat with_reducible refine an_ ?_
   intro b7 hb7
   refine hκ _ _ ?_
   refine srz_ [(8, [])] [1, 2, 3, 4, 5, 6, 7, 8, 18, 19, 20] [] [] fun κ ξ hκ hξ => ?_
   simp +decide only [go_sem, hp0, hp1, hlk]
   repeat with_reducible refine an_ ?_
   intro b8 hb8
   refine hκ _ _ ?_
   refine srd_ [1, 2, 3, 4, 5, 6, 7, 18, 19, 20, 44] [] [42] [(3, 32), (9, 38)] fun κ ξ hκ hξ => ?_
   simp +decide only [go_sem]
   repeat with_reducible refine an_ ?_
   refine vd_gc (by rfl) ?_
   simp +decide only [go_sem]
   refine gcF (scmp3_w _ _ _ _ _ _ _ _) ?_
   simp +decide only [go_sem]
   refine hκ _ _ ?_
   refine cd_ (fun c1 => ?_) (fun c1 => ?_)
   ·try simp only [go_sem] at c1
    refine rr_ [1, 2, 3, 4, 5, 18, 19, 20] [] [] fun κ ξ hκ hξ => ?_
    simp +decide only [go_sem, hp0, hlk]
    repeat with_reducible refine an_ ?_
    refine hκ _ _ ?_
    refine rr_ [1, 2, 3, 4, 5, 18, 19, 20] [] [] fun κ ξ hκ hξ => ?_
    simp +decide only [go_sem]
    refine hκ _ _ ?_
    have hst := clU_yes c1
    have hd := hdl i hil
    have hput := clD_put (ru := (i : Int)) (k := (k : Int)) (a := (ruat rs i).lay) (b := wtB (ruat rs i).tests) (c := (i : Int)) (ok := true) hp0 hp1 hlk
    refine ⟨k + 1, ⟨by omega, by omega⟩, EnvLe.of_eq (by rw [w64 (n := (k : Int) + 1) (by omega)]; rfl), ?_⟩
    rw [clR_succ, cl1, if_pos hst, ← hput]
    exact .refl _
   ·try simp only [go_sem] at c1
    refine sk ?_
    refine rr_ [1, 2, 3, 4, 5, 18, 19, 20] [] [] fun κ ξ hκ hξ => ?_
    simp +decide only [go_sem, c1]
    refine hκ _ _ ?_
    have hst := clU_no c1
    have hd := hdl i hil
    refine ⟨k + 1, ⟨by omega, by omega⟩, EnvLe.of_eq (by rw [w64 (n := (k : Int) + 1) (by omega)]; rfl), ?_⟩
    rw [clR_succ, cl1, if_neg (by rw [hst]; simp)]
    exact .refl _
  ·simp only [go_sem] at c0
   refine ex ?_
   show _ = _
   rw [clF_take hp, show k = (ruat rs i).decls.length by omega]
 ·rintro τ rfl
  have e : clF rs (List.replicate 33 cl0) (List.take (mL (fun i => ruM l x w s lg bx (ruat rs i)) (fun i => [.int .i64 i, .ag (ruS rs i)]) rs.length).length (mI (fun i => ruM l x w s lg bx (ruat rs i)) rs.length)) = claimsR l rs x w s lg bx := by rw [List.take_of_length_le (by unfold mL mI; rw [List.length_map]; exact Nat.le_refl _)]; rfl
  rw [e]
  have hcl := claims_len l rs x w s lg bx
  refine sr_ [2] [] [] fun κ ξ hκ hξ => ?_
  simp +decide only [go_sem, hb3, hcl, List.append_nil, List.length_replicate]
  refine hκ _ _ ?_
  refine rt ?_
  refine retE ?_
  simp +decide only [go_sem, resD, resV, hb2, hb3, hcl, List.append_nil, List.length_replicate]
  
end
section
def ckB (l : List Nd) (rs : List Ru) (w s lg bx : Int) : Bool := treB l && rulesB rs && rdB w s lg && isBx bx
def ckE (l : List Nd) (rs : List Ru) (x w s lg bx : Int) : Int := if ckB l rs w s lg bx = true then (if idB x = true then (if 0 ≤ idx l x then 0 else 4) else 1) else 1
theorem flat_i : ∀ l : List Int, (l.map irow).flatten = l.map iD
 | [] => rfl
 | x :: l => by simp only [List.map_cons, List.flatten_cons, flat_i l, irow, List.cons_append, List.nil_append, iD]
def firstS : List Int := [0, 0, 0, 0, 0, 0, 0, 0, 0, 10, 0, 0, 0, 0, 1, 1, 0, 0, 0, 0, 0, 0, 0, 0, 0, 0, 0, 0, 0, 0, 0, 0, 0]
attribute [local go_sem] List.length_map rowAt_n nrow rowAt_t trow rowAt_i irow
attribute [local go_sem] rowAt_e rowAt_tm rowAt_dc rowAt_ru tmrow dcrow rurow
attribute [local go_sem] iD_all iD_len rw2_0 rw2_1 rw1_0 Int.toNat_one
theorem chk_w (l : List Nd) (rs : List Ru) (x w s lg bx : Int) : PCall Tryz.prog (.func 54) [.ag [.sl 5 (l.map nrow) .no, .sl 4 (rs.map rurow) .no, .int .i64 x, .int .i64 w, .int .i64 s, .int .i64 lg, .int .i64 bx]] (.int .i64 (ckE l rs x w s lg bx)) := by
 refine PCall.le ?_
 refine fn_ Tryz.func54 (by rfl) (by rfl) (rs := [.tmp 2]) (by rfl) (by simp [Tryz.f54]) ?_
 refine sr_ [1] [1] [] fun κ ξ hκ hξ => ?_
 simp +decide only [go_sem]
 refine hκ _ _ ?_
 refine sq ?_
 refine sr_ [1, 27] [] [(4, 10), (10, 16), (16, 22)] fun κ ξ hκ hξ => ?_
 simp +decide only [go_sem]
 refine callF (tre_w _ _) ?_
 simp +decide only [go_sem]
 refine vo_gc ?_
 simp +decide only [go_sem]
 refine gcF (shv_w _ _) ?_
 simp +decide only [go_sem]
 refine vo_gc ?_
 simp +decide only [go_sem]
 refine gcF (drd_w _ _ _) ?_
 simp +decide only [go_sem]
 refine vo_gc ?_
 simp +decide only [go_sem]
 refine gcF (isbox_w _) ?_
 simp +decide only [go_sem]
 refine hκ _ _ ?_
 refine cd_ (fun c0 => ?_) (fun c0 => ?_)
 ·simp only [go_sem] at c0
  refine sr_ [2] [] [] fun κ ξ hκ hξ => ?_
  simp +decide only [go_sem]
  refine hκ _ _ ?_
  refine rt ?_
  refine retE ?_
  simp +decide only [go_sem, resD, resV, c0]
  congr 1
  unfold ckE
  rw [if_neg (by unfold ckB; rcases c0 with ((h | h) | h) | h <;> simp [h])]
 ·simp only [go_sem] at c0
  have hck : ckB l rs w s lg bx = true := by unfold ckB; rw [c0.1.1.1, c0.1.1.2, c0.1.2, c0.2]; rfl
  refine sk ?_
  refine sr_ [4, 5] [] [] fun κ ξ hκ hξ => ?_
  simp +decide only [go_sem, c0]
  refine callF (find_w _ _ _) ?_
  simp +decide only [go_sem, c0]
  refine hκ _ _ ?_
  refine sq ?_
  refine sr_ [5, 42] [] [(2, 39)] fun κ ξ hκ hξ => ?_
  simp +decide only [go_sem]
  refine hκ _ _ ?_
  refine cd_ (fun c1 => ?_) (fun c1 => ?_)
  ·try simp only [go_sem] at c1
   refine sr_ [2] [] [] fun κ ξ hκ hξ => ?_
   simp +decide only [go_sem, c1]
   refine hκ _ _ ?_
   refine rt ?_
   refine retE ?_
   simp +decide only [go_sem, resD, resV, c0, c1]
   congr 1
   unfold ckE
   rw [if_pos hck]
   cases hid : idB x
   ·rw [hid] at c1
    simp at c1
   ·rw [hid] at c1
    simp at c1
    rw [if_pos rfl, if_neg (by omega)]
  ·try simp only [go_sem] at c1
   refine sk ?_
   refine sr_ [2] [] [] fun κ ξ hκ hξ => ?_
   simp +decide only [go_sem]
   refine hκ _ _ ?_
   refine rt ?_
   refine retE ?_
   simp +decide only [go_sem, resD, resV, c0, c1]
   congr 1
   unfold ckE
   rw [if_pos hck]
   cases hid : idB x
   ·rfl
   ·rw [hid] at c1
    simp at c1
    rw [if_pos rfl, if_pos rfl, if_pos c1]
theorem frst_w  : PCall Tryz.prog (.func 22) [] (.ag (firstS.map iD)) := by
 refine PCall.le ?_
 refine fn_ Tryz.func22 (by rfl) (by rfl) (rs := [.cell 0 33]) (by rfl) (by simp [Tryz.f22]) ?_
 refine sr_ [0] [] [] fun κ ξ hκ hξ => ?_
 simp +decide only [go_sem]
 intro b0 hb0
 refine hκ _ _ ?_
 refine sr_ [0] [] [] fun κ ξ hκ hξ => ?_
 simp +decide only [go_sem]
 refine hκ _ _ ?_
 refine rt ?_
 refine retE ?_
 simp +decide only [go_sem, resD, resV, hb0]
 rfl
theorem vars_w (st : List Int) (hst : st.length = 33) : PCall Tryz.prog (.func 56) [.ag (st.map iD)] (.ag ((st.drop 25).map iD)) := by
 have hch := chunk_i hst
 have h33 : st.take 33 = st := List.take_of_length_le (by omega)
 have h8 : ((st.drop 25).map iD).length = 8 := by rw [List.length_map, List.length_drop]; omega
 have ht := List.take_of_length_le (Nat.le_of_eq h8)
 refine PCall.le ?_
 refine fn_ Tryz.func56 (by rfl) (by rfl) (rs := [.cell 2 102]) (by rfl) (by simp [Tryz.f56]) ?_
 refine sr_ [1, 2] [1] [] fun κ ξ hκ hξ => ?_
 simp +decide only [go_sem]
 intro b2 hb2
 refine hκ _ _ ?_
 refine sr_ [2] [] [] fun κ ξ hκ hξ => ?_
 simp +decide only [go_sem, hst, ↓hch, h33, flat_i, ht, ↓h8, Int.reduceToNat]
 repeat with_reducible refine an_ ?_
 refine hκ _ _ ?_
 refine rt ?_
 refine retE ?_
 simp +decide only [go_sem, resD, resV, hst, ↓hch, h33, flat_i, ht, ↓h8, List.append_nil, Int.reduceToNat, hb2]
 constructor
 ·rw [List.length_append, h8]; omega
 ·rw [List.take_append_of_le_length (by rw [h8]; exact Nat.le_refl _), ht]
end
section
theorem rwz (x : List D) (l : List (List D)) : rowAt (x :: l) 0 = x := rfl
theorem rws1 (a x : List D) (l : List (List D)) : rowAt (a :: x :: l) 1 = x := rfl
theorem rws2 (a b x : List D) (l : List (List D)) : rowAt (a :: b :: x :: l) 2 = x := rfl
theorem rws3 (a b c x : List D) (l : List (List D)) : rowAt (a :: b :: c :: x :: l) 3 = x := rfl
theorem rws4 (a b c d x : List D) (l : List (List D)) : rowAt (a :: b :: c :: d :: x :: l) 4 = x := rfl
theorem wr1 : IntKind.wrap .i64 (0 + 1) = 1 := by decide
theorem wr2 : IntKind.wrap .i64 (1 + 1) = 2 := by decide
theorem wr3 : IntKind.wrap .i64 (2 + 1) = 3 := by decide
theorem wr4 : IntKind.wrap .i64 (3 + 1) = 4 := by decide
theorem wr5 : IntKind.wrap .i64 (4 + 1) = 5 := by decide
def cpD (a b : Int) : D := .fn (.func 133) [] [.el [.int .i64 a], .el [.int .i64 b]]
def cutF : List D := List.replicate 25 (cpD 0 100000) ++ List.replicate 8 (cpD (-1000000) 1000000)
def cutA (i : Nat) : List D := cutF.take i ++ (List.replicate 33 (.v .nilFunc)).drop i
theorem cutA_len {i : Nat} (h : i ≤ 33) : (cutA i).length = 33 := by
 simp only [cutA, cutF, List.length_append, List.length_take, List.length_drop, List.length_replicate]; omega
theorem cut_put {i : Nat} (h : i < 33) (x : D) : putCells (cutA i) i [x] = cutF.take i ++ x :: (List.replicate 33 (.v .nilFunc)).drop (i + 1) := by
 have h1 : (cutF.take i).length = i := by simp only [cutF, List.length_append, List.length_take, List.length_replicate]; omega
 unfold putCells cutA
 rw [List.take_left' h1, List.length_singleton, List.drop_append, h1, show i + 1 - i = 1 by omega, List.drop_drop, List.drop_eq_nil_of_le (by rw [h1]; omega)]
 simp [Nat.add_comm]
theorem cut_put2 {i : Nat} (h : i < 33) (x y : D) : putCells (cutF.take i ++ x :: (List.replicate 33 (.v .nilFunc)).drop (i + 1)) i [y] = cutF.take i ++ y :: (List.replicate 33 (.v .nilFunc)).drop (i + 1) := by
 have h1 : (cutF.take i).length = i := by simp only [cutF, List.length_append, List.length_take, List.length_replicate]; omega
 unfold putCells
 rw [List.take_left' h1, List.length_singleton, List.drop_append, h1, show i + 1 - i = 1 by omega, List.drop_eq_nil_of_le (by rw [h1]; omega)]
 simp
theorem cut_step {i : Nat} {x : D} (h : cutF[i]? = some x) : cutF.take i ++ x :: (List.replicate 33 (.v .nilFunc)).drop (i + 1) = cutA (i + 1) := by
 unfold cutA
 rw [List.take_add_one, h]
 simp
theorem cutF_lo {i : Nat} (h : i < 25) : cutF[i]? = some (cpD 0 100000) := by
 unfold cutF
 rw [List.getElem?_append_left (by simpa using h), List.getElem?_replicate, if_pos h]
theorem cutF_hi {i : Nat} (h : 25 ≤ i) (h2 : i < 33) : cutF[i]? = some (cpD (-1000000) 1000000) := by
 unfold cutF
 rw [List.getElem?_append_right (by simpa using h), List.length_replicate, List.getElem?_replicate, if_pos (by omega)]
def flD : D := .fn (.func 85) [] []
def cutL : List D := [cpD 0 0, cpD (-100000) 100000, cpD (-100000) 100000, cpD 0 100000, cpD 0 100000, cpD 0 100000, cpD 0 100000, cpD 0 2, cpD 0 7, cpD 0 100000, cpD 0 2, flD, cpD 0 100000, cpD 0 100000, cpD 1 64, cpD 1 64, cpD 0 100000, flD,
  cpD (-100000) 100000, cpD (-100000) 100000, cpD 0 100000, flD, cpD 0 100000, flD, flD, cpD (-1000000) 1000000, cpD (-1000000) 1000000, cpD (-1000000) 1000000, cpD (-1000000) 1000000, cpD (-1000000) 1000000, cpD (-1000000) 1000000, cpD (-1000000) 1000000, cpD (-1000000) 1000000]
attribute [local go_sem] List.length_map rowAt_n nrow rowAt_t trow rowAt_i irow
attribute [local go_sem] rowAt_e rowAt_tm rowAt_dc rowAt_ru tmrow dcrow rurow
attribute [local go_sem] iD_all iD_len rw2_0 rw2_1 rw1_0 Int.toNat_one
attribute [local go_sem] rwz rws1 rws2 rws3 rws4 wr1 wr2 wr3 wr4 wr5
theorem cuts_w  : PCall Tryz.prog (.func 52) [] (.ag cutL) := by
 refine PCall.le ?_
 refine fn_ Tryz.func52 (by rfl) (by rfl) (rs := [.cell 0 89]) (by rfl) (by simp [Tryz.f52]) ?_
 refine sr_ [0] [] [] fun κ ξ hκ hξ => ?_
 simp +decide only [go_sem]
 intro b0 hb0
 refine hκ _ _ ?_
 refine sr_ [0, 1] [] [] fun κ ξ hκ hξ => ?_
 simp +decide only [go_sem]
 intro b1 hb1
 refine hκ _ _ ?_
 refine weak _ (EnvLe.refl _) (σ' := [(b1, .cells (cutA 0)), (b0, .cells (List.replicate 33 (D.v .nilFunc)))]) (.refl _) ?_
 refine sq ?_
 refine sr_ [0, 1, 7] [] [] fun κ ξ hκ hξ => ?_
 simp +decide only [go_sem]
 refine hκ _ _ ?_
 refine bl ?_
 refine lp (α := Nat) (fun i => mk [(0, .ptr b0 0), (1, .ptr b1 0), (7, .int .i64 i)]) (fun i => [(b1, .cells (cutA i)), (b0, .cells (List.replicate 33 (D.v .nilFunc)))]) (fun i => i ≤ 33) (fun i => 33 - i) 0 ⟨by omega, EnvLe.of_eq rfl, .refl _⟩ ?_
 rintro i hi
 have hcl := cutA_len hi
 refine sr_ [0, 1, 7, 8] [] [] fun κ ξ hκ hξ => ?_
 simp +decide only [go_sem]
 refine hκ _ _ ?_
 refine sq ?_
 refine cd_ (fun c0 => ?_) (fun c0 => ?_)
 ·simp only [go_sem] at c0
  refine sk ?_
  refine sq ?_
  refine bl ?_
  refine sr_ [0, 1, 2, 7] [] [] fun κ ξ hκ hξ => ?_
  simp +decide only [go_sem, c0]
  refine hκ _ _ ?_
  refine sr_ [0, 1, 2, 7] [] [] fun κ ξ hκ hξ => ?_
  simp +decide only [go_sem]
  refine callF (clip_w _ _) ?_
  simp +decide only [go_sem, hcl, Nat.zero_add, Nat.mul_one, Int.toNat_natCast]
  repeat with_reducible refine an_ ?_
  refine hκ _ _ ?_
  refine sr_ [0, 1, 2, 7, 14] [] [] fun κ ξ hκ hξ => ?_
  simp +decide only [go_sem]
  refine hκ _ _ ?_
  refine cd_ (fun c1 => ?_) (fun c1 => ?_)
  ·try simp only [go_sem] at c1
   refine rr_ [0, 1, 7] [] [] fun κ ξ hκ hξ => ?_
   simp +decide only [go_sem, c1]
   refine callF (clip_w _ _) ?_
   simp +decide only [go_sem, Nat.zero_add, Nat.mul_one, Int.toNat_natCast]
   repeat with_reducible refine an_ ?_
   refine hκ _ _ ?_
   refine rr_ [0, 1, 7] [] [] fun κ ξ hκ hξ => ?_
   simp +decide only [go_sem]
   refine hκ _ _ ?_
   refine ⟨i + 1, ⟨by omega, by omega⟩, EnvLe.of_eq (by rw [w64 (n := (i : Int) + 1) (by omega)]; rfl), ?_⟩
   rw [← cut_step (cutF_hi (by omega) (by omega)), ← cut_put2 (x := cpD 0 100000) (by omega), ← cut_put (by omega)]
   exact .refl _
  ·try simp only [go_sem] at c1
   refine sk ?_
   refine rr_ [0, 1, 7] [] [] fun κ ξ hκ hξ => ?_
   simp +decide only [go_sem, c1]
   refine hκ _ _ ?_
   refine ⟨i + 1, ⟨by omega, by omega⟩, EnvLe.of_eq (by rw [w64 (n := (i : Int) + 1) (by omega)]; rfl), ?_⟩
   rw [← cut_step (cutF_lo (by omega)), ← cut_put (by omega)]
   exact .refl _
 ·simp only [go_sem] at c0
  obtain rfl : i = 33 := by omega
  refine ex ?_
  refine sr_ [0, 1] [] [] fun κ ξ hκ hξ => ?_
  simp +decide only [go_sem]
  refine callF (clip_w _ _) ?_
  simp +decide only [go_sem, Nat.zero_add, Nat.mul_one]
  refine hκ _ _ ?_
  refine sq ?_
  refine sr_ [0, 1, 21, 22, 23] [] [] fun κ ξ hκ hξ => ?_
  simp +decide only [go_sem, Nat.zero_add]
  refine hκ _ _ ?_
  refine bl ?_
  refine lpN 5 ?_
  refine rnd ?_
  refine sr_ [0, 1, 21, 22, 23, 24] [] [] fun κ ξ hκ hξ => ?_
  simp +decide only [go_sem]
  refine hκ _ _ ?_
  refine sq ?_
  refine cdt (by rfl) ?_
  refine sk ?_
  refine sq ?_
  refine bl ?_
  refine sr_ [0, 1, 4, 21, 22, 23] [] [] fun κ ξ hκ hξ => ?_
  simp +decide only [go_sem]
  refine hκ _ _ ?_
  refine rr_ [0, 1, 21, 22, 23] [] [] fun κ ξ hκ hξ => ?_
  simp +decide only [go_sem]
  refine callF (clip_w _ _) ?_
  simp +decide only [go_sem, Nat.zero_add, Nat.mul_one]
  refine hκ _ _ ?_
  refine rr_ [0, 1, 21, 22, 23] [] [] fun κ ξ hκ hξ => ?_
  simp +decide only [go_sem]
  refine hκ _ _ ?_
  refine rnd ?_
  refine sr_ [0, 1, 21, 22, 23, 24] [] [] fun κ ξ hκ hξ => ?_
  simp +decide only [go_sem]
  refine hκ _ _ ?_
  refine sq ?_
  refine cdt (by rfl) ?_
  refine sk ?_
  refine sq ?_
  refine bl ?_
  refine sr_ [0, 1, 4, 21, 22, 23] [] [] fun κ ξ hκ hξ => ?_
  simp +decide only [go_sem]
  refine hκ _ _ ?_
  refine rr_ [0, 1, 21, 22, 23] [] [] fun κ ξ hκ hξ => ?_
  simp +decide only [go_sem]
  refine callF (clip_w _ _) ?_
  simp +decide only [go_sem, Int.reduceToNat, Nat.zero_add, Nat.mul_one]
  refine hκ _ _ ?_
  refine rr_ [0, 1, 21, 22, 23] [] [] fun κ ξ hκ hξ => ?_
  simp +decide only [go_sem]
  refine hκ _ _ ?_
  refine rnd ?_
  refine sr_ [0, 1, 21, 22, 23, 24] [] [] fun κ ξ hκ hξ => ?_
  simp +decide only [go_sem]
  refine hκ _ _ ?_
  refine sq ?_
  refine cdt (by rfl) ?_
  refine sk ?_
  refine sq ?_
  refine bl ?_
  refine sr_ [0, 1, 4, 21, 22, 23] [] [] fun κ ξ hκ hξ => ?_
  simp +decide only [go_sem, Int.reduceToNat]
  refine hκ _ _ ?_
  refine rr_ [0, 1, 21, 22, 23] [] [] fun κ ξ hκ hξ => ?_
  simp +decide only [go_sem]
  refine callF (clip_w _ _) ?_
  simp +decide only [go_sem, Int.reduceToNat, Nat.zero_add, Nat.mul_one]
  refine hκ _ _ ?_
  refine rr_ [0, 1, 21, 22, 23] [] [] fun κ ξ hκ hξ => ?_
  simp +decide only [go_sem]
  refine hκ _ _ ?_
  refine rnd ?_
  refine sr_ [0, 1, 21, 22, 23, 24] [] [] fun κ ξ hκ hξ => ?_
  simp +decide only [go_sem]
  refine hκ _ _ ?_
  refine sq ?_
  refine cdt (by rfl) ?_
  refine sk ?_
  refine sq ?_
  refine bl ?_
  refine sr_ [0, 1, 4, 21, 22, 23] [] [] fun κ ξ hκ hξ => ?_
  simp +decide only [go_sem, Int.reduceToNat]
  refine hκ _ _ ?_
  refine rr_ [0, 1, 21, 22, 23] [] [] fun κ ξ hκ hξ => ?_
  simp +decide only [go_sem]
  refine callF (clip_w _ _) ?_
  simp +decide only [go_sem, Int.reduceToNat, Nat.zero_add, Nat.mul_one]
  refine hκ _ _ ?_
  refine rr_ [0, 1, 21, 22, 23] [] [] fun κ ξ hκ hξ => ?_
  simp +decide only [go_sem]
  refine hκ _ _ ?_
  refine rnd ?_
  refine sr_ [0, 1, 21, 22, 23, 24] [] [] fun κ ξ hκ hξ => ?_
  simp +decide only [go_sem]
  refine hκ _ _ ?_
  refine sq ?_
  refine cdf (by rfl) ?_
  refine ex ?_
  refine sq ?_
  refine sr_ [0, 1, 31, 32, 33] [] [] fun κ ξ hκ hξ => ?_
  simp +decide only [go_sem, Nat.zero_add]
  refine hκ _ _ ?_
  refine bl ?_
  refine lpN 6 ?_
  refine rnd ?_
  refine sr_ [0, 1, 31, 32, 33, 34] [] [] fun κ ξ hκ hξ => ?_
  simp +decide only [go_sem]
  refine hκ _ _ ?_
  refine sq ?_
  refine cdt (by rfl) ?_
  refine sk ?_
  refine sq ?_
  refine bl ?_
  refine sr_ [0, 1, 6, 31, 32, 33] [] [] fun κ ξ hκ hξ => ?_
  simp +decide only [go_sem]
  refine hκ _ _ ?_
  refine rr_ [0, 1, 31, 32, 33] [] [] fun κ ξ hκ hξ => ?_
  simp +decide only [go_sem, Int.reduceToNat, Nat.zero_add, Nat.mul_one]
  refine hκ _ _ ?_
  refine rr_ [0, 1, 31, 32, 33] [] [] fun κ ξ hκ hξ => ?_
  simp +decide only [go_sem]
  refine hκ _ _ ?_
  refine rnd ?_
  refine sr_ [0, 1, 31, 32, 33, 34] [] [] fun κ ξ hκ hξ => ?_
  simp +decide only [go_sem]
  refine hκ _ _ ?_
  refine sq ?_
  refine cdt (by rfl) ?_
  refine sk ?_
  refine sq ?_
  refine bl ?_
  refine sr_ [0, 1, 6, 31, 32, 33] [] [] fun κ ξ hκ hξ => ?_
  simp +decide only [go_sem]
  refine hκ _ _ ?_
  refine rr_ [0, 1, 31, 32, 33] [] [] fun κ ξ hκ hξ => ?_
  simp +decide only [go_sem, Int.reduceToNat, Nat.zero_add, Nat.mul_one]
  refine hκ _ _ ?_
  refine rr_ [0, 1, 31, 32, 33] [] [] fun κ ξ hκ hξ => ?_
  simp +decide only [go_sem]
  refine hκ _ _ ?_
  refine rnd ?_
  refine sr_ [0, 1, 31, 32, 33, 34] [] [] fun κ ξ hκ hξ => ?_
  simp +decide only [go_sem]
  refine hκ _ _ ?_
  refine sq ?_
  refine cdt (by rfl) ?_
  refine sk ?_
  refine sq ?_
  refine bl ?_
  refine sr_ [0, 1, 6, 31, 32, 33] [] [] fun κ ξ hκ hξ => ?_
  simp +decide only [go_sem, Int.reduceToNat]
  refine hκ _ _ ?_
  refine rr_ [0, 1, 31, 32, 33] [] [] fun κ ξ hκ hξ => ?_
  simp +decide only [go_sem, Int.reduceToNat, Nat.zero_add, Nat.mul_one]
  refine hκ _ _ ?_
  refine rr_ [0, 1, 31, 32, 33] [] [] fun κ ξ hκ hξ => ?_
  simp +decide only [go_sem]
  refine hκ _ _ ?_
  refine rnd ?_
  refine sr_ [0, 1, 31, 32, 33, 34] [] [] fun κ ξ hκ hξ => ?_
  simp +decide only [go_sem]
  refine hκ _ _ ?_
  refine sq ?_
  refine cdt (by rfl) ?_
  refine sk ?_
  refine sq ?_
  refine bl ?_
  refine sr_ [0, 1, 6, 31, 32, 33] [] [] fun κ ξ hκ hξ => ?_
  simp +decide only [go_sem, Int.reduceToNat]
  refine hκ _ _ ?_
  refine rr_ [0, 1, 31, 32, 33] [] [] fun κ ξ hκ hξ => ?_
  simp +decide only [go_sem, Int.reduceToNat, Nat.zero_add, Nat.mul_one]
  refine hκ _ _ ?_
  refine rr_ [0, 1, 31, 32, 33] [] [] fun κ ξ hκ hξ => ?_
  simp +decide only [go_sem]
  refine hκ _ _ ?_
  refine rnd ?_
  refine sr_ [0, 1, 31, 32, 33, 34] [] [] fun κ ξ hκ hξ => ?_
  simp +decide only [go_sem]
  refine hκ _ _ ?_
  refine sq ?_
  refine cdt (by rfl) ?_
  refine sk ?_
  refine sq ?_
  refine bl ?_
  refine sr_ [0, 1, 6, 31, 32, 33] [] [] fun κ ξ hκ hξ => ?_
  simp +decide only [go_sem, Int.reduceToNat]
  refine hκ _ _ ?_
  refine rr_ [0, 1, 31, 32, 33] [] [] fun κ ξ hκ hξ => ?_
  simp +decide only [go_sem, Int.reduceToNat, Nat.zero_add, Nat.mul_one]
  refine hκ _ _ ?_
  refine rr_ [0, 1, 31, 32, 33] [] [] fun κ ξ hκ hξ => ?_
  simp +decide only [go_sem]
  refine hκ _ _ ?_
  refine rnd ?_
  refine sr_ [0, 1, 31, 32, 33, 34] [] [] fun κ ξ hκ hξ => ?_
  simp +decide only [go_sem]
  refine hκ _ _ ?_
  refine sq ?_
  refine cdf (by rfl) ?_
  refine ex ?_
  refine sr_ [0, 1] [] [] fun κ ξ hκ hξ => ?_
  simp +decide only [go_sem]
  refine callF (clip_w _ _) ?_
  simp +decide only [go_sem]
  refine callF (clip_w _ _) ?_
  simp +decide only [go_sem]
  refine callF (clip_w _ _) ?_
  simp +decide only [go_sem, Int.reduceToNat, Nat.zero_add, Nat.mul_one]
  refine hκ _ _ ?_
  refine sr_ [0, 1] [] [] fun κ ξ hκ hξ => ?_
  simp +decide only [go_sem]
  refine callF (clip_w _ _) ?_
  simp +decide only [go_sem]
  refine callF (clip_w _ _) ?_
  simp +decide only [go_sem, Int.reduceToNat, Nat.zero_add, Nat.mul_one]
  refine hκ _ _ ?_
  refine sr_ [0] [] [] fun κ ξ hκ hξ => ?_
  simp +decide only [go_sem, hb1, Nat.zero_add]
  refine hκ _ _ ?_
  refine rt ?_
  refine retE ?_
  simp +decide only [go_sem, resD, resV, hb0, hb1, hcl, Int.reduceToNat, Nat.zero_add, Nat.mul_one, Int.toNat_natCast, c0]
  rfl
end
section
attribute [local go_sem] List.length_map rowAt_n nrow rowAt_t trow rowAt_i irow
attribute [local go_sem] rowAt_e rowAt_tm rowAt_dc rowAt_ru tmrow dcrow rurow
attribute [local go_sem] iD_all iD_len rw2_0 rw2_1 rw1_0 Int.toNat_one
theorem rfl_w (n d : Int) (hd : 0 < d) : PCall Tryz.prog (.func 206) [.int .i64 n, .int .i64 d] (.int .i64 (n / d)) := by
 refine PCall.ok fun hok => ?_
 simp only [okAll, D.ok, okRows, and_true, true_and, lim_eq, inR_i64', inR_i32', inR_u8', inR_u16', inR_u64'] at hok
 obtain ⟨hn, hd2⟩ := hok
 have hd0 : ¬ d = 0 := by omega
 have hbd := tdiv_bd (n := n) hd
 have hfl := flo (n := n) hd
 have hqw : IntKind.wrap .i64 (n.tdiv d) = n.tdiv d := w64 (by omega)
 refine PCall.le ?_
 refine fn_ Tryz.func206 (by rfl) (by rfl) (rs := [.tmp 4]) (by rfl) (by simp [Tryz.f206]) ?_
 refine sr_ [0, 1] [] [] fun κ ξ hκ hξ => ?_
 simp +decide only [go_sem]
 refine hκ _ _ ?_
 refine sr_ [0, 1, 5] [] [] fun κ ξ hκ hξ => ?_
 simp +decide only [go_sem, hqw]
 repeat with_reducible refine an_ ?_
 refine hκ _ _ ?_
 refine sq ?_
 refine sr_ [5, 12] [] [] fun κ ξ hκ hξ => ?_
 simp +decide only [go_sem]
 repeat with_reducible refine an_ ?_
 refine hκ _ _ ?_
 refine cd_ (fun c0 => ?_) (fun c0 => ?_)
 ·simp only [go_sem] at c0
  rw [if_pos c0] at hfl
  have hn0 : n < 0 := by
   rcases Int.lt_or_le n 0 with h | h
   ·exact h
   ·have := Int.tmod_nonneg d h; omega
  have hfg := fdiv_ge hd hn0
  have hrw : IntKind.wrap .i64 (n.tdiv d - 1) = n / d := by rw [hfl, w64 (by omega)]
  refine rr_ [5] [] [] fun κ ξ hκ hξ => ?_
  simp +decide only [go_sem, c0, hrw]
  refine hκ _ _ ?_
  refine sr_ [4] [] [] fun κ ξ hκ hξ => ?_
  simp +decide only [go_sem]
  refine hκ _ _ ?_
  refine rt ?_
  refine retE ?_
  simp +decide only [go_sem, resD, resV, hqw, c0, hrw]
  
 ·simp only [go_sem] at c0
  rw [if_neg c0] at hfl
  refine sk ?_
  refine sr_ [4] [] [] fun κ ξ hκ hξ => ?_
  simp +decide only [go_sem, c0, hfl]
  refine hκ _ _ ?_
  refine rt ?_
  refine retE ?_
  simp +decide only [go_sem, resD, resV, hqw, c0, hfl]
  
theorem rco_w (n : Int) : PCall Tryz.prog (.func 195) [.int .i64 n] (.bool (okV n)) := by
 refine PCall.le ?_
 refine fn_ Tryz.func195 (by rfl) (by rfl) (rs := [.tmp 2]) (by rfl) (by simp [Tryz.f195]) ?_
 refine sr_ [0] [] [] fun κ ξ hκ hξ => ?_
 simp +decide only [go_sem]
 refine hκ _ _ ?_
 refine sr_ [2] [] [(2, 5)] fun κ ξ hκ hξ => ?_
 simp +decide only [go_sem]
 refine hκ _ _ ?_
 refine rt ?_
 refine retE ?_
 simp +decide only [go_sem, resD, resV]
 all_goals congr 1
 all_goals rw [Bool.eq_iff_iff]
 all_goals simp [okV]
 all_goals omega
theorem rin14_w (n lo hi : Int) : PCall Tryz.prog (.func 196) [.int .i64 n, .int .i64 lo, .int .i64 hi] (.bool (decide (lo ≤ n ∧ n ≤ hi))) := by
 refine PCall.le ?_
 refine fn_ Tryz.func196 (by rfl) (by rfl) (rs := [.tmp 6]) (by rfl) (by simp [Tryz.f196]) ?_
 refine sr_ [0, 1, 2] [] [] fun κ ξ hκ hξ => ?_
 simp +decide only [go_sem]
 refine hκ _ _ ?_
 refine sr_ [6] [] [(3, 10)] fun κ ξ hκ hξ => ?_
 simp +decide only [go_sem]
 refine hκ _ _ ?_
 refine rt ?_
 refine retE ?_
 simp +decide only [go_sem, resD, resV]
 all_goals congr 1
 all_goals rw [Bool.eq_iff_iff]
 all_goals simp [and_comm]
 all_goals omega
theorem rbx_w (n : Int) : PCall Tryz.prog (.func 98) [.int .i64 n] (.bool (isBx n)) := by
 refine PCall.le ?_
 refine fn_ Tryz.func98 (by rfl) (by rfl) (rs := [.tmp 2]) (by rfl) (by simp [Tryz.f98]) ?_
 refine sr_ [0] [] [] fun κ ξ hκ hξ => ?_
 simp +decide only [go_sem]
 refine hκ _ _ ?_
 refine sr_ [2] [] [(2, 5)] fun κ ξ hκ hξ => ?_
 simp +decide only [go_sem]
 refine hκ _ _ ?_
 refine rt ?_
 refine retE ?_
 simp +decide only [go_sem, resD, resV]
 all_goals congr 1
 all_goals rw [Bool.eq_iff_iff]
 all_goals simp [isBx]
 all_goals omega
theorem rfrst_w  : PCall Tryz.prog (.func 63) [] (.ag (firstS.map iD)) := by
 refine PCall.le ?_
 refine fn_ Tryz.func63 (by rfl) (by rfl) (rs := [.cell 0 33]) (by rfl) (by simp [Tryz.f63]) ?_
 refine sr_ [0] [] [] fun κ ξ hκ hξ => ?_
 simp +decide only [go_sem]
 intro b0 hb0
 refine hκ _ _ ?_
 refine sr_ [0, 1] [] [] fun κ ξ hκ hξ => ?_
 simp +decide only [go_sem]
 intro b1 hb1
 refine hκ _ _ ?_
 refine sr_ [0, 1] [] [] fun κ ξ hκ hξ => ?_
 simp +decide only [go_sem]
 refine hκ _ _ ?_
 refine sr_ [0, 1] [] [] fun κ ξ hκ hξ => ?_
 simp +decide only [go_sem]
 refine hκ _ _ ?_
 refine sr_ [0, 1] [] [] fun κ ξ hκ hξ => ?_
 simp +decide only [go_sem]
 refine hκ _ _ ?_
 refine sr_ [0] [] [] fun κ ξ hκ hξ => ?_
 simp +decide only [go_sem, hb1]
 refine hκ _ _ ?_
 refine rt ?_
 refine retE ?_
 simp +decide only [go_sem, resD, resV, hb0, hb1]
 rfl
end
end Go.Proofs.YtinhjbnljbmbcaaGreat
