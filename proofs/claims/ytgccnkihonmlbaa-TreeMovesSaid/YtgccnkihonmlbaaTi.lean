/- Plain facts of what is below a node: what goes, and what stays, if it is taken away; nodes put into a list. -/
import Derived.Test.YtgccnkihonmlbaaTe
import Derived.Test.YtgccnkihonmlbaaTh
import Derived.Test.YtgccnkihonmlbaaAr
namespace Go.Proofs.Ytgccnkihonmlbaa
open Go Go.RowKit
set_option linter.unusedSimpArgs false
set_option linter.unusedVariables false

/-- The node with this number is on the path of that one. -/
def goB (l : List Nd) (x : Int) (i : Nat) : Bool := iin (pathL l i) x
def goL (l : List Nd) (x : Int) (n : Nat) : List Nd := ((List.range n).filter fun i => goB l x i).map (nat l)
def stL (l : List Nd) (x : Int) (n : Nat) : List Nd := ((List.range n).filter fun i => !goB l x i).map (nat l)
theorem goL_succ (l : List Nd) (x : Int) (n : Nat) : goL l x (n + 1) = if goB l x n = true then goL l x n ++ [nat l n] else goL l x n := by
  unfold goL
  rw [List.range_succ, List.filter_append]
  cases h : goB l x n <;> simp [h]
theorem stL_succ (l : List Nd) (x : Int) (n : Nat) : stL l x (n + 1) = if goB l x n = true then stL l x n else stL l x n ++ [nat l n] := by
  unfold stL
  rw [List.range_succ, List.filter_append]
  cases h : goB l x n <;> simp [h]
theorem goL_len (l : List Nd) (x : Int) (n : Nat) : (goL l x n).length ≤ n := by
  unfold goL
  rw [List.length_map]
  have := List.length_filter_le (fun i => goB l x i) (List.range n)
  simpa using this
theorem stL_len (l : List Nd) (x : Int) (n : Nat) : (stL l x n).length ≤ n := by
  unfold stL
  rw [List.length_map]
  have := List.length_filter_le (fun i => !goB l x i) (List.range n)
  simpa using this
theorem go_st_len (l : List Nd) (x : Int) : ∀ n, (goL l x n).length + (stL l x n).length = n
  | 0 => rfl
  | n + 1 => by
    have := go_st_len l x n
    rw [goL_succ, stL_succ]
    split <;> simp <;> omega
/-! ### Numbers that are below -/
def insI (k : Int) (a : List Int) : List Int := if k ∈ a then a else a ++ [k]
def blL (l : List Nd) (x : Int) : Nat → List Int
  | 0 => [x]
  | i + 1 => if goB l x i = true then insI (nat l i).id (blL l x i) else blL l x i
def blE (a : List Int) : List (D × D) := a.map fun k => (.int .i64 k, .bool true)
theorem bl_put (k : Int) : ∀ a : List Int, mput (.int .i64 k) (.bool true) (blE a) = some (blE (insI k a))
  | [] => rfl
  | y :: a => by
    have ih := bl_put k a
    unfold blE at ih ⊢
    simp only [List.map_cons, mput, keq_int]
    by_cases h : k = y
    · subst h
      simp [insI]
    · rw [decide_eq_false h]
      simp only [ih]
      have : insI k (y :: a) = y :: insI k a := by unfold insI; by_cases h2 : k ∈ a <;> simp [h, h2]
      rw [this]
      rfl
theorem bl_get (k : Int) : ∀ a : List Int, mget (.int .i64 k) (blE a) = some (if k ∈ a then some (.bool true) else none)
  | [] => rfl
  | y :: a => by
    have ih := bl_get k a
    unfold blE at ih ⊢
    simp only [List.map_cons, mget, keq_int]
    by_cases h : k = y
    · subst h; simp
    · rw [decide_eq_false h]
      simp only [ih, List.mem_cons, h, false_or]
theorem bl_look (k : Int) (a : List Int) : lookD false (.bool false) (if k ∈ a then some (.bool true) else none) = .bool (decide (k ∈ a)) := by
  by_cases h : k ∈ a
  · rw [if_pos h, lookD_fs, decide_eq_true h]
  · rw [if_neg h, lookD_fn, decide_eq_false h]
theorem mem_insI {k y : Int} {a : List Int} : y ∈ insI k a ↔ y = k ∨ y ∈ a := by
  unfold insI
  by_cases h : k ∈ a
  · rw [if_pos h]
    constructor
    · exact .inr
    · rintro (rfl | h2)
      · exact h
      · exact h2
  · rw [if_neg h]
    simp only [List.mem_append, List.mem_singleton]
    exact Or.comm
theorem mem_bl {l : List Nd} {x y : Int} : ∀ {i : Nat}, y ∈ blL l x i ↔ y = x ∨ ∃ j, j < i ∧ goB l x j = true ∧ (nat l j).id = y
  | 0 => by simp [blL]
  | i + 1 => by
    have ih := mem_bl (l := l) (x := x) (y := y) (i := i)
    unfold blL
    by_cases h : goB l x i = true
    · rw [if_pos h, mem_insI, ih]
      constructor
      · rintro (h1 | h1 | ⟨j, h1, h2, h3⟩)
        · exact .inr ⟨i, by omega, h, h1.symm⟩
        · exact .inl h1
        · exact .inr ⟨j, by omega, h2, h3⟩
      · rintro (h1 | ⟨j, h1, h2, h3⟩)
        · exact .inr (.inl h1)
        · rcases Nat.lt_succ_iff_lt_or_eq.1 h1 with h4 | rfl
          · exact .inr (.inr ⟨j, h4, h2, h3⟩)
          · exact .inl h3.symm
    · rw [if_neg h, ih]
      constructor
      · rintro (h1 | ⟨j, h1, h2, h3⟩)
        · exact .inl h1
        · exact .inr ⟨j, by omega, h2, h3⟩
      · rintro (h1 | ⟨j, h1, h2, h3⟩)
        · exact .inl h1
        · rcases Nat.lt_succ_iff_lt_or_eq.1 h1 with h4 | rfl
          · exact .inr ⟨j, h4, h2, h3⟩
          · exact absurd h2 h
theorem upL_eq (l : List Nd) (i : Nat) : upL l i = (nat l i).id :: (if 0 ≤ pix l i then upL l (pix l i).toNat else []) := by
  unfold upL
  rw [List.map_cons, chn_eq]
  split <;> rfl
theorem goB_eq (l : List Nd) (x : Int) (i : Nat) : goB l x i = (decide ((nat l i).id = x) || (decide (0 ≤ pix l i) && goB l x (pix l i).toNat)) := by
  unfold goB pathL iin
  rw [Bool.eq_iff_iff]
  simp only [List.mem_reverse, decide_eq_true_eq, Bool.or_eq_true, Bool.and_eq_true]
  rw [upL_eq l i, List.mem_cons]
  by_cases h : 0 ≤ pix l i
  · rw [if_pos h]; simp only [h, true_and]; exact or_congr_left eq_comm
  · rw [if_neg h]; simp only [h, false_and, List.not_mem_nil, or_false]; exact eq_comm
theorem bl_go {l : List Nd} {x : Int} {i : Nat} (hT : Tree l) (hi : i < l.length) (hx : 1 ≤ x) : (decide ((nat l i).id ∈ blL l x i) || decide ((nat l i).par ∈ blL l x i)) = goB l x i := by
  have htl : (l.take i).length = i := by rw [List.length_take]; omega
  have hon : ∀ j, j < i → (nat l j).id ≠ (nat l i).id := by
    intro j hj e
    have h1 := hT.once i hi
    rcases idx_cases (l.take i) (nat l i).id with ⟨m, h2, _, _, h4⟩ | ⟨h2, _⟩
    · omega
    · exact h2 j (by omega) (by rw [nat_take hj]; exact e)
  rw [Bool.eq_iff_iff, goB_eq]
  simp only [Bool.or_eq_true, Bool.and_eq_true, decide_eq_true_eq, mem_bl]
  have hp : pix l i = idx (l.take i) (nat l i).par := rfl
  constructor
  · rintro ((h | ⟨j, h1, h2, h3⟩) | (h | ⟨j, h1, h2, h3⟩))
    · exact .inl h
    · exact absurd h3 (hon j h1)
    · right
      have h0 : 0 < i := by
        rcases Nat.eq_zero_or_pos i with h0 | h0
        · have := hT.root.1; rw [h0] at h; omega
        · exact h0
      have hup := (hT.up i h0 hi).1
      refine ⟨hup, ?_⟩
      rw [goB_eq]
      simp only [Bool.or_eq_true, decide_eq_true_eq]
      left
      rcases idx_cases (l.take i) (nat l i).par with ⟨m, h2, h3, _, h4⟩ | ⟨_, h4⟩
      · rw [hp, h4, Int.toNat_natCast]
        rw [nat_take (by omega)] at h3
        rw [h3, h]
      · omega
    · right
      rcases idx_cases (l.take i) (nat l i).par with ⟨m, h5, h6, _, h4⟩ | ⟨h5, _⟩
      · rw [htl] at h5
        rw [nat_take h5] at h6
        have hjm : j = m := by
          rcases Nat.lt_trichotomy j m with h | h | h
          · exfalso
            have hom := hT.once m (by omega)
            rcases idx_cases (l.take m) (nat l m).id with ⟨q, _, _, _, h9⟩ | ⟨h8, _⟩
            · omega
            · exact h8 j (by rw [List.length_take]; omega) (by rw [nat_take h, h3, h6])
          · exact h
          · exfalso
            have hom := hT.once j (by omega)
            rcases idx_cases (l.take j) (nat l j).id with ⟨q, _, _, _, h9⟩ | ⟨h8, _⟩
            · omega
            · exact h8 m (by rw [List.length_take]; omega) (by rw [nat_take h, h3, h6])
        subst hjm
        rw [hp, h4]
        exact ⟨by omega, by simpa using h2⟩
      · exact absurd (by rw [nat_take h1]; exact h3) (h5 j (by omega))
  · rintro (h | ⟨h, h2⟩)
    · exact .inl (.inl h)
    · right
      rcases idx_cases (l.take i) (nat l i).par with ⟨m, h5, h6, _, h4⟩ | ⟨_, h5⟩
      · rw [htl] at h5
        rw [nat_take h5] at h6
        rw [hp, h4, Int.toNat_natCast] at h2
        exact .inr ⟨m, h5, h2, h6⟩
      · omega
/-! ### The first that goes is the node itself -/
theorem go_self (l : List Nd) (i : Nat) : goB l (nat l i).id i = true := by
  rw [goB_eq]; simp
theorem go_early {l : List Nd} (hT : Tree l) {i j : Nat} (hi : i < l.length) (hj : j < i) : goB l (nat l i).id j = false := by
  induction j using Nat.strongRecOn with
  | ind j ih =>
    rw [goB_eq]
    have hlt := pix_lt l j
    have h1 : (nat l j).id ≠ (nat l i).id := by
      intro e
      have hom := hT.once i hi
      rcases idx_cases (l.take i) (nat l i).id with ⟨q, _, _, _, h9⟩ | ⟨h8, _⟩
      · omega
      · exact h8 j (by rw [List.length_take]; omega) (by rw [nat_take hj]; exact e)
    rw [decide_eq_false h1, Bool.false_or]
    by_cases h0 : 0 ≤ pix l j
    · rw [ih (pix l j).toNat (by omega) (by omega)]; simp
    · rw [decide_eq_false h0]; rfl
theorem goL_early {l : List Nd} (hT : Tree l) {i : Nat} (hi : i < l.length) : ∀ n, n ≤ i → goL l (nat l i).id n = []
  | 0, _ => rfl
  | n + 1, h => by rw [goL_succ, go_early hT hi (by omega)]; simpa using goL_early hT hi n (by omega)
theorem goL_head {l : List Nd} (hT : Tree l) {i : Nat} (hi : i < l.length) : ∀ n, i < n → n ≤ l.length → ∃ t, goL l (nat l i).id n = nat l i :: t
  | 0, h, _ => by omega
  | n + 1, h, hn => by
    rw [goL_succ]
    rcases Nat.lt_succ_iff_lt_or_eq.1 h with h1 | rfl
    · obtain ⟨t, ht⟩ := goL_head hT hi n h1 (by omega)
      rw [ht]
      split
      · exact ⟨t ++ [nat l n], rfl⟩
      · exact ⟨t, rfl⟩
    · rw [if_pos (go_self l i), goL_early hT hi i (Nat.le_refl _)]
      exact ⟨[], rfl⟩
theorem goL_first {l : List Nd} (hT : Tree l) {x : Int} (h : 0 ≤ idx l x) : ∃ t, goL l x l.length = nat l (idx l x).toNat :: t ∧ (nat l (idx l x).toNat).id = x := by
  rcases idx_cases l x with ⟨i, h1, h2, _, h4⟩ | ⟨_, h4⟩
  · rw [h4, Int.toNat_natCast]
    obtain ⟨t, ht⟩ := goL_head hT h1 l.length h1 (Nat.le_refl _)
    rw [h2] at ht
    exact ⟨t, ht, h2⟩
  · omega
/-! ### Nodes put into a list -/
def putI (l : List Nd) (b : Int) : Int := if b = 0 then (l.length : Int) else idx l b
def putL (l more : List Nd) (b : Int) : List Nd := l.take (putI l b).toNat ++ more ++ l.drop (putI l b).toNat
theorem putI_le (l : List Nd) (b : Int) : putI l b ≤ l.length ∧ -1 ≤ putI l b := by
  have h1 := idx_lt l b
  have h2 := idx_ge l b
  unfold putI
  split <;> omega
theorem putL_len {l more : List Nd} {b : Int} (h : 0 ≤ putI l b) : (putL l more b).length = l.length + more.length := by
  have := putI_le l b
  unfold putL
  simp only [List.length_append, List.length_take, List.length_drop]
  omega
/-- The first node's parent is turned. -/
def setP (g : List Nd) (p : Int) : List Nd := match g with
  | [] => []
  | n :: t => { n with par := p } :: t
theorem setP_len (g : List Nd) (p : Int) : (setP g p).length = g.length := by cases g <;> rfl
theorem setP_row {g : List Nd} (h : g ≠ []) (p : Int) : (g.map nrow).set 0 (putCells ((g.map nrow).getD 0 []) 1 [.int .i64 p]) = (setP g p).map nrow := by
  cases g with
  | nil => exact absurd rfl h
  | cons n t => rfl
theorem nrow_all (l : List Nd) : (l.map nrow).all (·.all D.isCell) = true := by
  rw [List.all_map, List.all_eq_true]; intro t _; rfl
end Go.Proofs.Ytgccnkihonmlbaa
