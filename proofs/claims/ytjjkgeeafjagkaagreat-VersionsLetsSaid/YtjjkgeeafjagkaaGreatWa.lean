/- The walks of searches. Printed by a tool of our own. -/
import Derived.Test.YtjjkgeeafjagkaaGreatJSa
namespace Go.Proofs.YtjjkgeeafjagkaaGreat
open Go Go.RowKit
set_option linter.unusedSimpArgs false
set_option linter.unusedVariables false
set_option maxHeartbeats 4000000
set_option maxRecDepth 100000
/-- Where a list has what is looked for, or -1. -/
def fixI {α : Type} (p : α → Bool) (l : List α) : Int := match l.findIdx? p with
  | some i => (i : Int)
  | none => -1
theorem fixI_some {α : Type} {p : α → Bool} {l : List α} {d : α} {i : Nat} (h : i < l.length) (h1 : p (l.getD i d) = true) (h2 : ∀ j, j < i → p (l.getD j d) = false) : fixI p l = i := by
  unfold fixI
  rw [List.findIdx?_eq_some_iff_getElem.2 ⟨h, by simpa [h] using h1, fun j hj => by have := h2 j hj; simpa [show j < l.length from by omega] using this⟩]
theorem fixI_none {α : Type} {p : α → Bool} {l : List α} {d : α} (h2 : ∀ j, j < l.length → p (l.getD j d) = false) : fixI p l = -1 := by
  unfold fixI
  rw [List.findIdx?_eq_none_iff.2 fun g hg => by
    obtain ⟨j, hj, rfl⟩ := List.getElem_of_mem hg
    simpa [hj] using h2 j hj]
theorem fixI_cases {α : Type} (p : α → Bool) (l : List α) (d : α) : (∃ i, i < l.length ∧ p (l.getD i d) = true ∧ (∀ j, j < i → p (l.getD j d) = false) ∧ fixI p l = i) ∨ ((∀ j, j < l.length → p (l.getD j d) = false) ∧ fixI p l = -1) := by
  unfold fixI
  cases h : l.findIdx? p with
  | some i =>
    obtain ⟨h1, h2, h3⟩ := List.findIdx?_eq_some_iff_getElem.1 h
    refine .inl ⟨i, h1, by simpa [h1] using h2, fun j hj => ?_, rfl⟩
    have := h3 j hj
    simpa [show j < l.length from by omega] using this
  | none =>
    rw [List.findIdx?_eq_none_iff] at h
    exact .inr ⟨fun j hj => by simpa [hj] using h l[j] (List.getElem_mem hj), rfl⟩
def idx (l : List Nd) (x : Int) : Int := fixI (fun n => decide (n.id = x)) l
def iix (l : List Int) (x : Int) : Int := fixI (fun n => decide (n = x)) l
def iin (l : List Int) (x : Int) : Bool := decide (x ∈ l)
theorem iin_some {l : List Int} {x : Int} {i : Nat} (h : i < l.length) (h1 : iat l i = x) : iin l x = true := by
  unfold iin
  rw [decide_eq_true_eq, ← h1]
  unfold iat
  simp [h]
theorem iin_none {l : List Int} {x : Int} (h2 : ∀ j, j < l.length → iat l j ≠ x) : iin l x = false := by
  unfold iin
  rw [decide_eq_false_iff_not]
  intro h
  obtain ⟨j, hj, e⟩ := List.getElem_of_mem h
  exact h2 j hj (by unfold iat; simpa [hj] using e)
theorem iix_in (l : List Int) (x : Int) : decide (0 ≤ iix l x) = iin l x := by
  unfold iix
  rcases fixI_cases (fun n => decide (n = x)) l 0 with ⟨i, h1, h2, _, h3⟩ | ⟨h1, h2⟩
  · rw [h3, iin_some h1 (by simpa [iat] using h2)]; simp
  · rw [h2, iin_none fun j hj => by simpa [iat] using h1 j hj]; rfl
def kidsL (l : List Nd) (x : Int) : List Int := (l.filter fun n => decide (n.par = x)).map (·.id)
theorem kidsL_take {l : List Nd} {x : Int} {i : Nat} (h : i < l.length) : kidsL (l.take (i + 1)) x = if (nat l i).par = x then kidsL (l.take i) x ++ [(nat l i).id] else kidsL (l.take i) x := by
  have e : nat l i = l[i] := by simp [nat, h]
  unfold kidsL
  rw [e, List.take_succ_eq_append_getElem h, List.filter_append, List.map_append]
  by_cases hc : l[i].par = x <;> simp [hc]
theorem kidsL_len (l : List Nd) (x : Int) : (kidsL l x).length ≤ l.length := by
  unfold kidsL
  rw [List.length_map]
  exact List.length_filter_le _ _
theorem list_ext {α : Type} {a b : List α} {d : α} (hl : a.length = b.length) (h : ∀ j, j < a.length → a.getD j d = b.getD j d) : a = b := by
  apply List.ext_getElem hl
  intro i h1 h2
  have := h i h1
  simpa [h1, h2] using this
theorem list_ne {α : Type} {a b : List α} {d : α} {j : Nat} (h : a.getD j d ≠ b.getD j d) : a ≠ b := fun e => h (by rw [e])
/-- A selector. -/
def selB (l : List Ts) : Bool := decide (0 < l.length ∧ l.length ≤ 8) && !(tat l 0).child && l.all tsB
theorem sel_true {l : List Ts} : selB l = true ↔ (0 < l.length ∧ l.length ≤ 8) ∧ (tat l 0).child = false ∧ ∀ j, j < l.length → tsB (tat l j) = true := by
  unfold selB
  simp only [Bool.and_eq_true, decide_eq_true_eq, Bool.not_eq_true', List.all_eq_true, and_assoc]
  refine and_congr_right fun _ => and_congr_right fun _ => and_congr_right fun _ => ⟨fun h j hj => ?_, fun h t ht => ?_⟩
  · exact h _ (by simp [tat, hj])
  · obtain ⟨j, hj, rfl⟩ := List.getElem_of_mem ht
    simpa [tat, hj] using h j hj
theorem all_ts {l : List Ts} : l.all tsB = true ↔ ∀ j, j < l.length → tsB (tat l j) = true := by
  rw [List.all_eq_true]
  refine ⟨fun h j hj => h _ (by simp [tat, hj]), fun h t ht => ?_⟩
  obtain ⟨j, hj, rfl⟩ := List.getElem_of_mem ht
  simpa [tat, hj] using h j hj
attribute [local go_sem] List.length_map rowAt_n nrow rowAt_t trow rowAt_i irow
theorem ridx_w (l : List Nd) (t : Tok) (x : Int) : PCall Tryz.prog (.func 59) [.sl 5 (l.map nrow) t, .int .i64 x] (.int .i64 (idx l x)) := by
  refine PCall.ok fun hok => ?_
  simp only [okAll, D.ok, okRows, and_true, true_and, lim_eq, inR_i64', inR_i32', inR_u8', inR_u16', inR_u64'] at hok
  obtain ⟨⟨hl, hr⟩, _⟩ := hok; rw [List.length_map] at hl
  refine PCall.le ?_
  refine fn_ Tryz.func59 (by rfl) (by rfl) (rs := [.tmp 4]) (by rfl) (by simp [Tryz.f59]) ?_
  refine sq ?_
  refine rg [0, 1] [] [] (by kernel_rfl) ?_; intro κ ξ hκ hξ
  try simp +decide only [go_sem, Nat.reduceMul, Nat.reduceAdd, Nat.reduceBEq, cond_false]
  repeat with_reducible refine And.intro (by first | assumption | omega | (simp; done) | (simp; omega) | (intro hg; simp +decide only [go_sem, hg]; done) | (intro hg; simp +decide only [go_sem, hg]; omega)) ?_
  refine hκ _ _ ?_; clear hκ hξ ξ κ
  refine sq ?_
  refine sq ?_
  refine rg [0, 1, 5] [] [] (by kernel_rfl) ?_; intro κ ξ hκ hξ
  try simp +decide only [go_sem, Nat.reduceMul, Nat.reduceAdd, Nat.reduceBEq, cond_false]
  repeat with_reducible refine And.intro (by first | assumption | omega | (simp; done) | (simp; omega) | (intro hg; simp +decide only [go_sem, hg]; done) | (intro hg; simp +decide only [go_sem, hg]; omega)) ?_
  refine hκ _ _ ?_; clear hκ hξ ξ κ
  refine bl ?_
  refine lp (α := Nat) (fun i => mk [(0, .sl 5 (l.map nrow) t), (1, .int .i64 x), (5, .int .i64 i)]) (fun _ => []) (fun i => i ≤ l.length ∧ ∀ j, j < i → (nat l j).id ≠ x) (fun i => l.length - i) 0 ⟨⟨by omega, by intro j hj; omega⟩, EnvLe.of_eq rfl, .refl _⟩ ?_
  rintro i ⟨hi, hj⟩
  refine sq ?_
  refine sq ?_
  refine rg [0, 1, 5, 9] [] [] (by kernel_rfl) ?_; intro κ ξ hκ hξ
  try simp +decide only [go_sem, Nat.reduceMul, Nat.reduceAdd, Nat.reduceBEq, cond_false]
  repeat with_reducible refine And.intro (by first | assumption | omega | (simp; done) | (simp; omega) | (intro hg; simp +decide only [go_sem, hg]; done) | (intro hg; simp +decide only [go_sem, hg]; omega)) ?_
  refine hκ _ _ ?_; clear hκ hξ ξ κ
  refine cd (by rfl) (fun c0 => ?_) (fun c0 => ?_)
  · try simp only [go_sem] at c0
    refine sk ?_
    refine sq ?_
    refine bl ?_
    refine sq ?_
    refine rg [0, 1, 5, 18] [] [] (by kernel_rfl) ?_; intro κ ξ hκ hξ
    try simp +decide only [go_sem, Nat.reduceMul, Nat.reduceAdd, Nat.reduceBEq, cond_false, c0]
    repeat with_reducible refine And.intro (by first | assumption | omega | (simp; done) | (simp; omega) | (intro hg; simp +decide only [go_sem, hg]; done) | (intro hg; simp +decide only [go_sem, hg]; omega)) ?_
    refine hκ _ _ ?_; clear hκ hξ ξ κ
    refine cd (by rfl) (fun c1 => ?_) (fun c1 => ?_)
    · try simp only [go_sem] at c1
      refine sq ?_
      refine rg [4] [] [] (by kernel_rfl) ?_; intro κ ξ hκ hξ
      try simp +decide only [go_sem, Nat.reduceMul, Nat.reduceAdd, Nat.reduceBEq, cond_false, c0, c1]
      repeat with_reducible refine And.intro (by first | assumption | omega | (simp; done) | (simp; omega) | (intro hg; simp +decide only [go_sem, hg]; done) | (intro hg; simp +decide only [go_sem, hg]; omega)) ?_
      refine hκ _ _ ?_; clear hκ hξ ξ κ
      refine rt ?_
      refine retE ?_
      simp +decide only [go_sem, resD, resV, c0, c1]
      congr 1
      unfold idx
      rw [fixI_some (d := nd0) (i := i) (by omega) (by simpa [nat] using c1) fun j h => by simpa [nat] using hj j h]
    · try simp only [go_sem] at c1
      refine sk ?_
      refine rg [0, 1, 5] [] [] (by kernel_rfl) ?_; intro κ ξ hκ hξ
      try simp +decide only [go_sem, Nat.reduceMul, Nat.reduceAdd, Nat.reduceBEq, cond_false, c0, c1]
      repeat with_reducible refine And.intro (by first | assumption | omega | (simp; done) | (simp; omega) | (intro hg; simp +decide only [go_sem, hg]; done) | (intro hg; simp +decide only [go_sem, hg]; omega)) ?_
      refine hκ _ _ ?_; clear hκ hξ ξ κ
      refine ⟨i + 1, ⟨⟨by omega, ?_⟩, by omega⟩, EnvLe.of_eq (by rw [w64 (by omega)]; rfl), List.nil_sublist _⟩
      intro j h
      rcases Nat.lt_succ_iff_lt_or_eq.1 h with h | rfl
      · exact hj j h
      · first | assumption | omega | simpa using c1 | (simp at c1 ⊢; omega)
  · try simp only [go_sem] at c0
    refine ex ?_
    refine sq ?_
    refine rg [4] [] [] (by kernel_rfl) ?_; intro κ ξ hκ hξ
    try simp +decide only [go_sem, Nat.reduceMul, Nat.reduceAdd, Nat.reduceBEq, cond_false, c0]
    repeat with_reducible refine And.intro (by first | assumption | omega | (simp; done) | (simp; omega) | (intro hg; simp +decide only [go_sem, hg]; done) | (intro hg; simp +decide only [go_sem, hg]; omega)) ?_
    refine hκ _ _ ?_; clear hκ hξ ξ κ
    refine rt ?_
    refine retE ?_
    simp +decide only [go_sem, resD, resV, c0]
    congr 1
    unfold idx
    rw [fixI_none (d := nd0) fun j h => by simpa [nat] using hj j (by omega)]

theorem sixf_w (l : List Ts) (t : Tok) : PCall Tryz.prog (.func 113) [.sl 4 (l.map trow) t, .fn (.func 105) [] []] (.int .i64 (fixI (fun x => !tsB x) l)) := by
  refine PCall.ok fun hok => ?_
  simp only [okAll, D.ok, okRows, and_true, true_and, lim_eq, inR_i64', inR_i32', inR_u8', inR_u16', inR_u64'] at hok
  obtain ⟨hl, hr⟩ := hok; rw [List.length_map] at hl
  refine PCall.le ?_
  refine fn_ Tryz.func113 (by rfl) (by rfl) (rs := [.tmp 4]) (by rfl) (by simp [Tryz.f113]) ?_
  refine sq ?_
  refine rg [0, 1] [] [] (by kernel_rfl) ?_; intro κ ξ hκ hξ
  try simp +decide only [go_sem, Nat.reduceMul, Nat.reduceAdd, Nat.reduceBEq, cond_false]
  repeat with_reducible refine And.intro (by first | assumption | omega | (simp; done) | (simp; omega) | (intro hg; simp +decide only [go_sem, hg]; done) | (intro hg; simp +decide only [go_sem, hg]; omega)) ?_
  refine hκ _ _ ?_; clear hκ hξ ξ κ
  refine sq ?_
  refine sq ?_
  refine rg [0, 1, 7, 8] [] [] (by kernel_rfl) ?_; intro κ ξ hκ hξ
  try simp +decide only [go_sem, Nat.reduceMul, Nat.reduceAdd, Nat.reduceBEq, cond_false]
  repeat with_reducible refine And.intro (by first | assumption | omega | (simp; done) | (simp; omega) | (intro hg; simp +decide only [go_sem, hg]; done) | (intro hg; simp +decide only [go_sem, hg]; omega)) ?_
  refine hκ _ _ ?_; clear hκ hξ ξ κ
  refine bl ?_
  refine lp (α := Nat) (fun i => mk [(0, .sl 4 (l.map trow) t), (1, .fn (.func 105) [] []), (7, .int .i64 l.length), (8, .int .i64 i)]) (fun _ => []) (fun i => i ≤ l.length ∧ ∀ j, j < i → tsB (tat l j) = true) (fun i => l.length - i) 0 ⟨⟨by omega, by intro j hj; omega⟩, EnvLe.of_eq rfl, .refl _⟩ ?_
  rintro i ⟨hi, hj⟩
  refine sq ?_
  refine rg [0, 1, 7, 8, 9] [] [] (by kernel_rfl) ?_; intro κ ξ hκ hξ
  try simp +decide only [go_sem, Nat.reduceMul, Nat.reduceAdd, Nat.reduceBEq, cond_false]
  repeat with_reducible refine And.intro (by first | assumption | omega | (simp; done) | (simp; omega) | (intro hg; simp +decide only [go_sem, hg]; done) | (intro hg; simp +decide only [go_sem, hg]; omega)) ?_
  refine hκ _ _ ?_; clear hκ hξ ξ κ
  refine sq ?_
  refine cd (by rfl) (fun c0 => ?_) (fun c0 => ?_)
  · try simp only [go_sem] at c0
    refine sk ?_
    refine sq ?_
    refine bl ?_
    refine sq ?_
    refine rg [0, 1, 5, 7, 8] [] [] (by kernel_rfl) ?_; intro κ ξ hκ hξ
    try simp +decide only [go_sem, Nat.reduceMul, Nat.reduceAdd, Nat.reduceBEq, cond_false, c0]
    repeat with_reducible refine And.intro (by first | assumption | omega | (simp; done) | (simp; omega) | (intro hg; simp +decide only [go_sem, hg]; done) | (intro hg; simp +decide only [go_sem, hg]; omega)) ?_
    refine hκ _ _ ?_; clear hκ hξ ξ κ
    refine sq ?_
    refine rg [0, 1, 5, 7, 8, 16] [] [] (by kernel_rfl) ?_; intro κ ξ hκ hξ
    try simp +decide only [go_sem, Nat.reduceMul, Nat.reduceAdd, Nat.reduceBEq, cond_false, c0]
    repeat with_reducible refine And.intro (by first | assumption | omega | (simp; done) | (simp; omega) | (intro hg; simp +decide only [go_sem, hg]; done) | (intro hg; simp +decide only [go_sem, hg]; omega)) ?_
    refine callF (wrong_w _) ?_
    try simp +decide only [go_sem, Nat.reduceMul, Nat.reduceAdd, Nat.reduceBEq, cond_false, c0]
    repeat with_reducible refine And.intro (by first | assumption | omega | (simp; done) | (simp; omega) | (intro hg; simp +decide only [go_sem, hg]; done) | (intro hg; simp +decide only [go_sem, hg]; omega)) ?_
    refine hκ _ _ ?_; clear hκ hξ ξ κ
    refine cd (by rfl) (fun c1 => ?_) (fun c1 => ?_)
    · try simp only [go_sem] at c1
      refine sq ?_
      refine rg [4] [] [] (by kernel_rfl) ?_; intro κ ξ hκ hξ
      try simp +decide only [go_sem, Nat.reduceMul, Nat.reduceAdd, Nat.reduceBEq, cond_false, c0, c1]
      repeat with_reducible refine And.intro (by first | assumption | omega | (simp; done) | (simp; omega) | (intro hg; simp +decide only [go_sem, hg]; done) | (intro hg; simp +decide only [go_sem, hg]; omega)) ?_
      refine hκ _ _ ?_; clear hκ hξ ξ κ
      refine rt ?_
      refine retE ?_
      simp +decide only [go_sem, resD, resV, c0, c1]
      congr 1
      rw [fixI_some (p := fun x => !tsB x) (d := ts0) (i := i) (by omega) (by simpa [tat] using c1) fun j h => by simpa [tat] using hj j h]
    · try simp only [go_sem] at c1
      refine sk ?_
      refine rg [0, 1, 7, 8] [] [] (by kernel_rfl) ?_; intro κ ξ hκ hξ
      try simp +decide only [go_sem, Nat.reduceMul, Nat.reduceAdd, Nat.reduceBEq, cond_false, c0, c1]
      repeat with_reducible refine And.intro (by first | assumption | omega | (simp; done) | (simp; omega) | (intro hg; simp +decide only [go_sem, hg]; done) | (intro hg; simp +decide only [go_sem, hg]; omega)) ?_
      refine hκ _ _ ?_; clear hκ hξ ξ κ
      refine ⟨i + 1, ⟨⟨by omega, ?_⟩, by omega⟩, EnvLe.of_eq (by rw [w64 (by omega)]; rfl), List.nil_sublist _⟩
      intro j h
      rcases Nat.lt_succ_iff_lt_or_eq.1 h with h | rfl
      · exact hj j h
      · first | assumption | simpa using c1
  · try simp only [go_sem] at c0
    refine ex ?_
    refine sq ?_
    refine rg [4] [] [] (by kernel_rfl) ?_; intro κ ξ hκ hξ
    try simp +decide only [go_sem, Nat.reduceMul, Nat.reduceAdd, Nat.reduceBEq, cond_false, c0]
    repeat with_reducible refine And.intro (by first | assumption | omega | (simp; done) | (simp; omega) | (intro hg; simp +decide only [go_sem, hg]; done) | (intro hg; simp +decide only [go_sem, hg]; omega)) ?_
    refine hκ _ _ ?_; clear hκ hξ ξ κ
    refine rt ?_
    refine retE ?_
    simp +decide only [go_sem, resD, resV, c0]
    congr 1
    rw [fixI_none (p := fun x => !tsB x) (d := ts0) fun j h => by simpa [tat] using hj j (by omega)]

theorem sconf_w (l : List Ts) (t : Tok) : PCall Tryz.prog (.func 104) [.sl 4 (l.map trow) t, .fn (.func 105) [] []] (.bool (!l.all tsB)) := by
  refine PCall.le ?_
  refine fn_ Tryz.func104 (by rfl) (by rfl) (rs := [.tmp 4]) (by rfl) (by simp [Tryz.f104]) ?_
  refine sq ?_
  refine rg [0, 1] [] [] (by kernel_rfl) ?_; intro κ ξ hκ hξ
  try simp +decide only [go_sem, Nat.reduceMul, Nat.reduceAdd, Nat.reduceBEq, cond_false]
  repeat with_reducible refine And.intro (by first | assumption | omega | (simp; done) | (simp; omega) | (intro hg; simp +decide only [go_sem, hg]; done) | (intro hg; simp +decide only [go_sem, hg]; omega)) ?_
  refine hκ _ _ ?_; clear hκ hξ ξ κ
  refine sq ?_
  refine rg [4] [] [] (by kernel_rfl) ?_; intro κ ξ hκ hξ
  try simp +decide only [go_sem, Nat.reduceMul, Nat.reduceAdd, Nat.reduceBEq, cond_false]
  repeat with_reducible refine And.intro (by first | assumption | omega | (simp; done) | (simp; omega) | (intro hg; simp +decide only [go_sem, hg]; done) | (intro hg; simp +decide only [go_sem, hg]; omega)) ?_
  refine callF (sixf_w _ _) ?_
  try simp +decide only [go_sem, Nat.reduceMul, Nat.reduceAdd, Nat.reduceBEq, cond_false]
  repeat with_reducible refine And.intro (by first | assumption | omega | (simp; done) | (simp; omega) | (intro hg; simp +decide only [go_sem, hg]; done) | (intro hg; simp +decide only [go_sem, hg]; omega)) ?_
  refine hκ _ _ ?_; clear hκ hξ ξ κ
  refine rt ?_
  refine retE ?_
  simp +decide only [go_sem, resD, resV]
  all_goals congr 1
  all_goals rcases fixI_cases (fun x => !tsB x) l ts0 with ⟨i, h1, h2, _, h3⟩ | ⟨h1, h2⟩
  · rw [h3]
    have : l.all tsB = false := by rw [← Bool.not_eq_true, all_ts]; exact fun h => by have := h i h1; simp [tat] at this h2; rw [h2] at this; cases this
    rw [this]; simp
  · rw [h2, all_ts.2 fun j hj => by simpa [tat] using h1 j hj]; rfl

theorem sel_w (l : List Ts) (t : Tok) : PCall Tryz.prog (.func 88) [.sl 4 (l.map trow) t] (.bool (selB l)) := by
  refine PCall.ok fun hok => ?_
  simp only [okAll, D.ok, okRows, and_true, true_and, lim_eq, inR_i64', inR_i32', inR_u8', inR_u16', inR_u64'] at hok
  obtain ⟨hl, hr⟩ := hok; rw [List.length_map] at hl
  refine PCall.le ?_
  refine fn_ Tryz.func88 (by rfl) (by rfl) (rs := [.tmp 2]) (by rfl) (by simp [Tryz.f88]) ?_
  refine sq ?_
  refine rg [0] [] [] (by kernel_rfl) ?_; intro κ ξ hκ hξ
  try simp +decide only [go_sem, Nat.reduceMul, Nat.reduceAdd, Nat.reduceBEq, cond_false]
  repeat with_reducible refine And.intro (by first | assumption | omega | (simp; done) | (simp; omega) | (intro hg; simp +decide only [go_sem, hg]; done) | (intro hg; simp +decide only [go_sem, hg]; omega)) ?_
  refine hκ _ _ ?_; clear hκ hξ ξ κ
  refine sq ?_
  by_cases hl0 : 0 < l.length
  · have hl1 : (0 : Int) < (l.length : Int) := by omega
    have hl2 : ((0 : Nat) : Int) < (l.length : Int) := by omega
    refine rg [2] [] [(3, 6), (8, 11), (15, 18)] (by kernel_rfl) ?_; intro κ ξ hκ hξ
    try simp +decide only [go_sem, Nat.reduceMul, Nat.reduceAdd, Nat.reduceBEq, cond_false, hl1, hl2]
    repeat with_reducible refine And.intro (by first | assumption | omega | (simp; done) | (simp; omega) | (intro hg; simp +decide only [go_sem, hg]; done) | (intro hg; simp +decide only [go_sem, hg]; omega)) ?_
    refine vo_gc ?_; simp +decide only [go_sem, hl1, hl2]; refine gcallF (fun hg => ⟨by first | rfl | (simp +decide only [go_sem, hg, hl1, hl2]; done) | exact hg | simpa using hg, sconf_w _ _⟩) ?_
    try simp +decide only [go_sem, Nat.reduceMul, Nat.reduceAdd, Nat.reduceBEq, cond_false, hl1, hl2]
    repeat with_reducible refine And.intro (by first | assumption | omega | (simp; done) | (simp; omega) | (intro hg; simp +decide only [go_sem, hg]; done) | (intro hg; simp +decide only [go_sem, hg]; omega)) ?_
    refine hκ _ _ ?_; clear hκ hξ ξ κ
    refine rt ?_
    refine retE ?_
    simp +decide only [go_sem, resD, resV, hl1, hl2]
    congr 1
    unfold selB
    have e : ((l.length : Int) ≤ 8) ↔ l.length ≤ 8 := by omega
    rw [Bool.eq_iff_iff]
    simp [hl0, e]
  · have hl1 : ¬ (0 : Int) < (l.length : Int) := by omega
    refine rg [2] [] [(3, 6), (8, 11), (15, 18)] (by kernel_rfl) ?_; intro κ ξ hκ hξ
    try simp +decide only [go_sem, Nat.reduceMul, Nat.reduceAdd, Nat.reduceBEq, cond_false, hl1]
    repeat with_reducible refine And.intro (by first | assumption | omega | (simp; done) | (simp; omega) | (intro hg; simp +decide only [go_sem, hg]; done) | (intro hg; simp +decide only [go_sem, hg]; omega)) ?_
    refine vo_gc ?_; simp +decide only [go_sem, hl1]; refine gcallF (fun hg => ⟨by first | rfl | (simp +decide only [go_sem, hg, hl1]; done) | exact hg | simpa using hg, sconf_w _ _⟩) ?_
    try simp +decide only [go_sem, Nat.reduceMul, Nat.reduceAdd, Nat.reduceBEq, cond_false, hl1]
    repeat with_reducible refine And.intro (by first | assumption | omega | (simp; done) | (simp; omega) | (intro hg; simp +decide only [go_sem, hg]; done) | (intro hg; simp +decide only [go_sem, hg]; omega)) ?_
    refine hκ _ _ ?_; clear hκ hξ ξ κ
    refine rt ?_
    refine retE ?_
    simp +decide only [go_sem, resD, resV, hl1]
    congr 1
    unfold selB
    simp [hl0]

theorem rsel_w (l : List Ts) (t : Tok) : PCall Tryz.prog (.func 80) [.sl 4 (l.map trow) t] (.bool (selB l)) := by
  refine PCall.ok fun hok => ?_
  simp only [okAll, D.ok, okRows, and_true, true_and, lim_eq, inR_i64', inR_i32', inR_u8', inR_u16', inR_u64'] at hok
  obtain ⟨hl, hr⟩ := hok; rw [List.length_map] at hl
  refine PCall.le ?_
  refine fn_ Tryz.func80 (by rfl) (by rfl) (rs := [.tmp 2]) (by rfl) (by simp [Tryz.f80]) ?_
  refine sq ?_
  refine rg [0] [] [] (by kernel_rfl) ?_; intro κ ξ hκ hξ
  try simp +decide only [go_sem, Nat.reduceMul, Nat.reduceAdd, Nat.reduceBEq, cond_false]
  repeat with_reducible refine And.intro (by first | assumption | omega | (simp; done) | (simp; omega) | (intro hg; simp +decide only [go_sem, hg]; done) | (intro hg; simp +decide only [go_sem, hg]; omega)) ?_
  refine hκ _ _ ?_; clear hκ hξ ξ κ
  refine sq ?_
  refine sq ?_
  by_cases hl0 : 0 < l.length
  · have hl1 : ¬ (l.length : Int) < 1 := by omega
    have hl2 : ((0 : Nat) : Int) < (l.length : Int) := by omega
    have hl3 : (0 : Int) < (l.length : Int) := by omega
    refine rg [0, 18] [] [(3, 8), (8, 13)] (by kernel_rfl) ?_; intro κ ξ hκ hξ
    try simp +decide only [go_sem, Nat.reduceMul, Nat.reduceAdd, Nat.reduceBEq, cond_false, hl1, hl2, hl3]
    repeat with_reducible refine And.intro (by first | assumption | omega | (simp; done) | (simp; omega) | (intro hg; simp +decide only [go_sem, hg]; done) | (intro hg; simp +decide only [go_sem, hg]; omega)) ?_
    refine hκ _ _ ?_; clear hκ hξ ξ κ
    refine cd (by rfl) (fun c0 => ?_) (fun c0 => ?_)
    · try simp only [go_sem] at c0
      refine sq ?_
      refine rg [2] [] [] (by kernel_rfl) ?_; intro κ ξ hκ hξ
      try simp +decide only [go_sem, Nat.reduceMul, Nat.reduceAdd, Nat.reduceBEq, cond_false, hl1, hl2, hl3, c0]
      repeat with_reducible refine And.intro (by first | assumption | omega | (simp; done) | (simp; omega) | (intro hg; simp +decide only [go_sem, hg]; done) | (intro hg; simp +decide only [go_sem, hg]; omega)) ?_
      refine hκ _ _ ?_; clear hκ hξ ξ κ
      refine rt ?_
      refine retE ?_
      simp +decide only [go_sem, resD, resV, hl1, hl2, hl3, c0]
      congr 1
      symm
      rw [← Bool.not_eq_true, sel_true]
      rintro ⟨h1, h2, h3⟩
      rcases c0 with c0 | c0
      · omega
      · rw [h2] at c0; cases c0
    · try simp only [go_sem] at c0
      refine sk ?_
      refine sq ?_
      refine sq ?_
      refine rg [0, 3] [] [] (by kernel_rfl) ?_; intro κ ξ hκ hξ
      try simp +decide only [go_sem, Nat.reduceMul, Nat.reduceAdd, Nat.reduceBEq, cond_false, hl1, hl2, hl3, c0]
      repeat with_reducible refine And.intro (by first | assumption | omega | (simp; done) | (simp; omega) | (intro hg; simp +decide only [go_sem, hg]; done) | (intro hg; simp +decide only [go_sem, hg]; omega)) ?_
      refine hκ _ _ ?_; clear hκ hξ ξ κ
      refine bl ?_
      refine lp (α := Nat) (fun i => mk [(0, .sl 4 (l.map trow) t), (3, .int .i64 i)]) (fun _ => []) (fun i => i ≤ l.length ∧ ∀ j, j < i → tsB (tat l j) = true) (fun i => l.length - i) 0 ⟨⟨by omega, by intro j hj; omega⟩, EnvLe.of_eq rfl, .refl _⟩ ?_
      rintro i ⟨hi, hj⟩
      refine sq ?_
      refine sq ?_
      refine rg [0, 3, 22] [] [] (by kernel_rfl) ?_; intro κ ξ hκ hξ
      try simp +decide only [go_sem, Nat.reduceMul, Nat.reduceAdd, Nat.reduceBEq, cond_false, hl1, hl2, hl3, c0]
      repeat with_reducible refine And.intro (by first | assumption | omega | (simp; done) | (simp; omega) | (intro hg; simp +decide only [go_sem, hg]; done) | (intro hg; simp +decide only [go_sem, hg]; omega)) ?_
      refine hκ _ _ ?_; clear hκ hξ ξ κ
      refine cd (by rfl) (fun c1 => ?_) (fun c1 => ?_)
      · try simp only [go_sem] at c1
        refine sk ?_
        refine sq ?_
        refine bl ?_
        refine sq ?_
        refine rg [0, 3, 4] [] [] (by kernel_rfl) ?_; intro κ ξ hκ hξ
        try simp +decide only [go_sem, Nat.reduceMul, Nat.reduceAdd, Nat.reduceBEq, cond_false, hl1, hl2, hl3, c0, c1]
        repeat with_reducible refine And.intro (by first | assumption | omega | (simp; done) | (simp; omega) | (intro hg; simp +decide only [go_sem, hg]; done) | (intro hg; simp +decide only [go_sem, hg]; omega)) ?_
        refine callF (rtest_w _) ?_
        try simp +decide only [go_sem, Nat.reduceMul, Nat.reduceAdd, Nat.reduceBEq, cond_false, hl1, hl2, hl3, c0, c1]
        repeat with_reducible refine And.intro (by first | assumption | omega | (simp; done) | (simp; omega) | (intro hg; simp +decide only [go_sem, hg]; done) | (intro hg; simp +decide only [go_sem, hg]; omega)) ?_
        refine hκ _ _ ?_; clear hκ hξ ξ κ
        refine sq ?_
        refine rg [0, 3, 31] [] [] (by kernel_rfl) ?_; intro κ ξ hκ hξ
        try simp +decide only [go_sem, Nat.reduceMul, Nat.reduceAdd, Nat.reduceBEq, cond_false, hl1, hl2, hl3, c0, c1]
        repeat with_reducible refine And.intro (by first | assumption | omega | (simp; done) | (simp; omega) | (intro hg; simp +decide only [go_sem, hg]; done) | (intro hg; simp +decide only [go_sem, hg]; omega)) ?_
        refine hκ _ _ ?_; clear hκ hξ ξ κ
        refine cd (by rfl) (fun c2 => ?_) (fun c2 => ?_)
        · try simp only [go_sem] at c2
          refine sq ?_
          refine rg [2] [] [] (by kernel_rfl) ?_; intro κ ξ hκ hξ
          try simp +decide only [go_sem, Nat.reduceMul, Nat.reduceAdd, Nat.reduceBEq, cond_false, hl1, hl2, hl3, c0, c1, c2]
          repeat with_reducible refine And.intro (by first | assumption | omega | (simp; done) | (simp; omega) | (intro hg; simp +decide only [go_sem, hg]; done) | (intro hg; simp +decide only [go_sem, hg]; omega)) ?_
          refine hκ _ _ ?_; clear hκ hξ ξ κ
          refine rt ?_
          refine retE ?_
          simp +decide only [go_sem, resD, resV, hl1, hl2, hl3, c0, c1, c2]
          congr 1
          symm
          rw [← Bool.not_eq_true, sel_true]
          rintro ⟨_, _, h3⟩
          rw [h3 i (by omega)] at c2
          cases c2
        · try simp only [go_sem] at c2
          refine sk ?_
          refine rg [0, 3] [] [] (by kernel_rfl) ?_; intro κ ξ hκ hξ
          try simp +decide only [go_sem, Nat.reduceMul, Nat.reduceAdd, Nat.reduceBEq, cond_false, hl1, hl2, hl3, c0, c1, c2]
          repeat with_reducible refine And.intro (by first | assumption | omega | (simp; done) | (simp; omega) | (intro hg; simp +decide only [go_sem, hg]; done) | (intro hg; simp +decide only [go_sem, hg]; omega)) ?_
          refine hκ _ _ ?_; clear hκ hξ ξ κ
          refine ⟨i + 1, ⟨⟨by omega, ?_⟩, by omega⟩, EnvLe.of_eq (by rw [w64 (by omega)]; rfl), List.nil_sublist _⟩
          intro j h
          rcases Nat.lt_succ_iff_lt_or_eq.1 h with h | rfl
          · exact hj j h
          · first | assumption | simpa using c2
      · try simp only [go_sem] at c1
        refine ex ?_
        refine sq ?_
        refine rg [2] [] [] (by kernel_rfl) ?_; intro κ ξ hκ hξ
        try simp +decide only [go_sem, Nat.reduceMul, Nat.reduceAdd, Nat.reduceBEq, cond_false, hl1, hl2, hl3, c0, c1]
        repeat with_reducible refine And.intro (by first | assumption | omega | (simp; done) | (simp; omega) | (intro hg; simp +decide only [go_sem, hg]; done) | (intro hg; simp +decide only [go_sem, hg]; omega)) ?_
        refine hκ _ _ ?_; clear hκ hξ ξ κ
        refine rt ?_
        refine retE ?_
        simp +decide only [go_sem, resD, resV, hl1, hl2, hl3, c0, c1]
        rw [sel_true.2 ⟨by omega, c0.2, fun j h => hj j (by omega)⟩]
  · have hl1 : (l.length : Int) < 1 := by omega
    refine rg [0, 18] [] [(3, 8), (8, 13)] (by kernel_rfl) ?_; intro κ ξ hκ hξ
    try simp +decide only [go_sem, Nat.reduceMul, Nat.reduceAdd, Nat.reduceBEq, cond_false, hl1]
    repeat with_reducible refine And.intro (by first | assumption | omega | (simp; done) | (simp; omega) | (intro hg; simp +decide only [go_sem, hg]; done) | (intro hg; simp +decide only [go_sem, hg]; omega)) ?_
    refine hκ _ _ ?_; clear hκ hξ ξ κ
    refine cdt (by rfl) ?_
    refine sq ?_
    refine rg [2] [] [] (by kernel_rfl) ?_; intro κ ξ hκ hξ
    try simp +decide only [go_sem, Nat.reduceMul, Nat.reduceAdd, Nat.reduceBEq, cond_false, hl1]
    repeat with_reducible refine And.intro (by first | assumption | omega | (simp; done) | (simp; omega) | (intro hg; simp +decide only [go_sem, hg]; done) | (intro hg; simp +decide only [go_sem, hg]; omega)) ?_
    refine hκ _ _ ?_; clear hκ hξ ξ κ
    refine rt ?_
    refine retE ?_
    simp +decide only [go_sem, resD, resV, hl1]
    congr 1
    symm
    rw [← Bool.not_eq_true, sel_true]
    rintro ⟨h1, _⟩
    omega

end Go.Proofs.YtjjkgeeafjagkaaGreat
/- Plain facts of trees: depths, what a tree is. -/
namespace Go.Proofs.YtjjkgeeafjagkaaGreat
open Go Go.RowKit
set_option linter.unusedSimpArgs false
set_option linter.unusedVariables false

theorem idx_lt (l : List Nd) (x : Int) : idx l x < l.length := by
  unfold idx
  rcases fixI_cases (fun n => decide (n.id = x)) l nd0 with ⟨i, h1, _, _, h3⟩ | ⟨_, h2⟩
  · rw [h3]; omega
  · rw [h2]; omega
theorem idx_ge (l : List Nd) (x : Int) : -1 ≤ idx l x := by
  unfold idx
  rcases fixI_cases (fun n => decide (n.id = x)) l nd0 with ⟨i, h1, _, _, h3⟩ | ⟨_, h2⟩
  · rw [h3]; omega
  · rw [h2]; omega
/-- The place of a node's parent before it, or -1. -/
def pix (l : List Nd) (i : Nat) : Int := idx (l.take i) (nat l i).par
theorem pix_lt (l : List Nd) (i : Nat) : pix l i < i := by
  have := idx_lt (l.take i) (nat l i).par
  have h2 := List.length_take_le i l
  unfold pix
  omega
theorem pix_ge (l : List Nd) (i : Nat) : -1 ≤ pix l i := idx_ge _ _
/-- How many nodes the path of a node has. -/
def dpt (l : List Nd) (i : Nat) : Int :=
  if 0 ≤ pix l i then dpt l (pix l i).toNat + 1 else 1
termination_by i
decreasing_by
  have := pix_lt l i
  omega
theorem dpt_eq (l : List Nd) (i : Nat) : dpt l i = if 0 ≤ pix l i then dpt l (pix l i).toNat + 1 else 1 := by rw [dpt]
theorem dpt_pos (l : List Nd) : ∀ i, 1 ≤ dpt l i := by
  intro i
  induction i using Nat.strongRecOn with
  | ind i ih =>
    rw [dpt_eq]
    split
    · have := ih (pix l i).toNat (by have := pix_lt l i; omega)
      omega
    · omega
theorem idx_cases (l : List Nd) (x : Int) : (∃ i, i < l.length ∧ (nat l i).id = x ∧ (∀ j, j < i → (nat l j).id ≠ x) ∧ idx l x = i) ∨ ((∀ j, j < l.length → (nat l j).id ≠ x) ∧ idx l x = -1) := by
  unfold idx
  rcases fixI_cases (fun n => decide (n.id = x)) l nd0 with ⟨i, h1, h2, h4, h3⟩ | ⟨h1, h2⟩
  · exact .inl ⟨i, h1, by simpa [nat] using h2, fun j hj => by simpa [nat] using h4 j hj, h3⟩
  · exact .inr ⟨fun j hj => by simpa [nat] using h1 j hj, h2⟩
theorem idx_is {l : List Nd} {x : Int} {i : Nat} (h : i < l.length) (h1 : (nat l i).id = x) (h2 : ∀ j, j < i → (nat l j).id ≠ x) : idx l x = i := by
  unfold idx
  exact fixI_some (d := nd0) h (by simpa [nat] using h1) fun j hj => by simpa [nat] using h2 j hj
theorem idx_no {l : List Nd} {x : Int} (h2 : ∀ j, j < l.length → (nat l j).id ≠ x) : idx l x = -1 := by
  unfold idx
  exact fixI_none (d := nd0) fun j hj => by simpa [nat] using h2 j hj
theorem nat_take {l : List Nd} {i j : Nat} (h : j < i) : nat (l.take i) j = nat l j := by
  unfold nat
  simp only [List.getD_eq_getElem?_getD, List.getElem?_take, h, if_true]

/-- A node that may stand where it stands. -/
def okAt (l : List Nd) (i : Nat) : Bool :=
  fmB (nat l i) && decide (idx (l.take i) (nat l i).id = -1) && (decide (i = 0) || (decide (0 ≤ pix l i) && stR (nat l i).kind (nat l (pix l i).toNat).kind)) && decide (dpt l i ≤ 30)
/-- What a tree is. -/
def treB (l : List Nd) : Bool := decide (1 ≤ l.length ∧ l.length ≤ 4000) && decide ((nat l 0).par = 0) && decide ((nat l 0).kind = 1) && (List.range l.length).all (okAt l)
structure Tree (l : List Nd) : Prop where
  len : 1 ≤ l.length ∧ l.length ≤ 4000
  root : (nat l 0).par = 0 ∧ (nat l 0).kind = 1
  form : ∀ i, i < l.length → fmB (nat l i) = true
  once : ∀ i, i < l.length → idx (l.take i) (nat l i).id = -1
  up : ∀ i, 0 < i → i < l.length → 0 ≤ pix l i ∧ stR (nat l i).kind (nat l (pix l i).toNat).kind = true
  deep : ∀ i, i < l.length → dpt l i ≤ 30
theorem okAt_true {l : List Nd} {i : Nat} : okAt l i = true ↔ fmB (nat l i) = true ∧ idx (l.take i) (nat l i).id = -1 ∧ (0 < i → 0 ≤ pix l i ∧ stR (nat l i).kind (nat l (pix l i).toNat).kind = true) ∧ dpt l i ≤ 30 := by
  unfold okAt
  simp only [Bool.and_eq_true, Bool.or_eq_true, decide_eq_true_eq, and_assoc]
  refine and_congr_right fun _ => and_congr_right fun _ => and_congr_left fun _ => ?_
  constructor
  · rintro (h | h) h0
    · omega
    · exact h
  · intro h
    rcases Nat.eq_zero_or_pos i with h0 | h0
    · exact .inl h0
    · exact .inr (h h0)
theorem treB_true {l : List Nd} : treB l = true ↔ Tree l := by
  unfold treB
  simp only [Bool.and_eq_true, decide_eq_true_eq, List.all_eq_true, List.mem_range]
  constructor
  · rintro ⟨⟨⟨h1, h2⟩, h3⟩, h4⟩
    exact ⟨h1, ⟨h2, h3⟩, fun i hi => (okAt_true.1 (h4 i hi)).1, fun i hi => (okAt_true.1 (h4 i hi)).2.1, fun i h0 hi => (okAt_true.1 (h4 i hi)).2.2.1 h0, fun i hi => (okAt_true.1 (h4 i hi)).2.2.2⟩
  · intro h
    exact ⟨⟨⟨h.len, h.root.1⟩, h.root.2⟩, fun i hi => okAt_true.2 ⟨h.form i hi, h.once i hi, fun h0 => h.up i h0 hi, h.deep i hi⟩⟩
theorem treB_false {l : List Nd} {i : Nat} (hi : i < l.length) (h : okAt l i = false) : treB l = false := by
  cases e : treB l with
  | false => rfl
  | true =>
    have t := treB_true.1 e
    have := okAt_true.2 ⟨t.form i hi, t.once i hi, fun h0 => t.up i h0 hi, t.deep i hi⟩
    rw [h] at this; cases this
theorem treB_all {l : List Nd} (h1 : 1 ≤ l.length ∧ l.length ≤ 4000) (h2 : (nat l 0).par = 0) (h3 : (nat l 0).kind = 1) (h : ∀ j, j < l.length → okAt l j = true) : treB l = true := by
  unfold treB
  simp only [Bool.and_eq_true, decide_eq_true_eq, List.all_eq_true, List.mem_range]
  exact ⟨⟨⟨h1, h2⟩, h3⟩, h⟩
theorem fm_kind {n : Nd} (h : fmB n = true) : 1 ≤ n.kind ∧ n.kind ≤ 11 := by
  unfold fmB at h
  simp only [Bool.and_eq_true, decide_eq_true_eq] at h
  omega
theorem fm_id {n : Nd} (h : fmB n = true) : 1 ≤ n.id ∧ n.id ≤ 1000000 ∧ 0 ≤ n.par ∧ n.par ≤ 1000000 := by
  unfold fmB at h
  simp only [Bool.and_eq_true, decide_eq_true_eq] at h
  omega

/-! ### The places of a tree, as a map -/
def plD (p : Int × Int) : D := .ag [.int .i64 p.1, .int .i64 p.2]
def plM (l : List Nd) (i : Nat) : List (Int × Int × Int) := (List.range i).map fun j => ((nat l j).id, (j : Int), dpt l j)
def plE (l : List Nd) (i : Nat) : List (D × D) := (plM l i).map fun x => (.int .i64 x.1, plD x.2)
def plk (l : List Nd) (i : Nat) (k : Int) : Int × Int := if 0 ≤ idx (l.take i) k then (idx (l.take i) k, dpt l (idx (l.take i) k).toNat) else (0, 0)
theorem keq_int (a b : Int) : keqD (.int .i64 a) (.int .i64 b) = some (decide (a = b)) := by simp [keqD]
theorem pl_find (l : List Nd) {i : Nat} (hi : i ≤ l.length) (k : Int) : ((plM l i).find? fun x => decide (k = x.1)) = if 0 ≤ idx (l.take i) k then some (k, plk l i k) else none := by
  have htl : (l.take i).length = i := by rw [List.length_take]; omega
  rcases idx_cases (l.take i) k with ⟨j, h1, h2, h3, h4⟩ | ⟨h1, h2⟩
  · rw [htl] at h1
    rw [if_pos (by omega), List.find?_eq_some_iff_getElem]
    rw [nat_take h1] at h2
    unfold plk
    rw [if_pos (by omega), h4]
    refine ⟨by simp, j, by simpa [plM] using h1, by simp [plM, h2], fun m hm => ?_⟩
    have := h3 m hm
    rw [nat_take (by omega)] at this
    simp [plM]
    exact fun e => this e.symm
  · rw [htl] at h1
    rw [if_neg (by omega), List.find?_eq_none]
    intro x hx
    unfold plM at hx
    obtain ⟨j, hj, rfl⟩ := List.mem_map.1 hx
    have hj' := List.mem_range.1 hj
    have := h1 j hj'
    rw [nat_take hj'] at this
    simpa using fun e => this e.symm
theorem pl_get (l : List Nd) {i : Nat} (hi : i ≤ l.length) (k : Int) : mget (.int .i64 k) (plE l i) = some (if 0 ≤ idx (l.take i) k then some (.ag [.int .i64 (plk l i k).1, .int .i64 (plk l i k).2]) else none) := by
  unfold plE
  rw [mget_map (fun k => .int .i64 k) plD keq_int k, pl_find l hi k]
  split <;> rfl
theorem pl_look (l : List Nd) (i : Nat) (k : Int) : lookD true (.ag [.int .i64 0, .int .i64 0]) (if 0 ≤ idx (l.take i) k then some (.ag [.int .i64 (plk l i k).1, .int .i64 (plk l i k).2]) else none) = .tup [.ag [.int .i64 (plk l i k).1, .int .i64 (plk l i k).2], .bool (decide (0 ≤ idx (l.take i) k))] := by
  by_cases h : 0 ≤ idx (l.take i) k
  · rw [if_pos h, lookD_s, decide_eq_true h]
  · rw [if_neg h, lookD_n, decide_eq_false h]
    unfold plk
    rw [if_neg h]
theorem pl_look' (l : List Nd) (i : Nat) (k : Int) : lookD false (.ag [.int .i64 0, .int .i64 0]) (if 0 ≤ idx (l.take i) k then some (.ag [.int .i64 (plk l i k).1, .int .i64 (plk l i k).2]) else none) = .ag [.int .i64 (plk l i k).1, .int .i64 (plk l i k).2] := by
  by_cases h : 0 ≤ idx (l.take i) k
  · rw [if_pos h, lookD_fs]
  · rw [if_neg h, lookD_fn]
    unfold plk
    rw [if_neg h]
theorem pl_put (l : List Nd) {i : Nat} (hi : i < l.length) (h : idx (l.take i) (nat l i).id = -1) : mput (.int .i64 (nat l i).id) (.ag [.int .i64 (i : Int), .int .i64 (dpt l i)]) (plE l i) = some (plE l (i + 1)) := by
  unfold plE
  have htl : (l.take i).length = i := by rw [List.length_take]; omega
  rw [show (D.ag [.int .i64 (i : Int), .int .i64 (dpt l i)]) = plD ((i : Int), dpt l i) from rfl, mput_map (fun k => .int .i64 k) plD keq_int]
  · unfold plM
    simp [List.range_succ]
  · intro x hx e
    unfold plM at hx
    obtain ⟨j, hj, rfl⟩ := List.mem_map.1 hx
    have hj' := List.mem_range.1 hj
    rcases idx_cases (l.take i) (nat l i).id with ⟨m, h1, _, _, h4⟩ | ⟨h1, _⟩
    · omega
    · exact h1 j (by omega) (by rw [nat_take hj']; exact e.symm)
theorem plk_bounds (l : List Nd) {i : Nat} (hi : i ≤ l.length) (k : Int) : 0 ≤ (plk l i k).1 ∧ (0 ≤ idx (l.take i) k → (plk l i k).1 < i ∧ (plk l i k).1 = idx (l.take i) k) := by
  have h1 := idx_lt (l.take i) k
  have h2 := List.length_take_le i l
  unfold plk
  split
  · exact ⟨by assumption, fun _ => ⟨by omega, rfl⟩⟩
  · exact ⟨Int.le_refl _, fun h => by omega⟩
/-- What is found is there: its second part is not 0. -/
theorem plk_there (l : List Nd) (i : Nat) (k : Int) : ((plk l i k).1 = 0 ∧ (plk l i k).2 = 0) ↔ idx (l.take i) k = -1 := by
  unfold plk
  have h2 := idx_ge (l.take i) k
  split
  · rename_i h
    have := dpt_pos l (idx (l.take i) k).toNat
    constructor
    · rintro ⟨_, e⟩; simp only at e; omega
    · intro e; omega
  · exact ⟨fun _ => by omega, fun _ => ⟨rfl, rfl⟩⟩
theorem plk_dpt (l : List Nd) (i : Nat) : dpt l i = (plk l i (nat l i).par).2 + 1 := by
  rw [dpt_eq]
  unfold plk pix
  split <;> rfl
/-- What the program asks of a node, behind nodes that may stand. -/
theorem ok_prog {l : List Nd} {i k : Nat} (hi : i < l.length) (hj : ∀ j, j < i → okAt l j = true) (hpk : (plk l i (nat l i).par).1 = (k : Int)) :
    okAt l i = true ↔ fmB (nat l i) = true ∧ ((plk l i (nat l i).id).1 = 0 ∧ (plk l i (nat l i).id).2 = 0) ∧ (0 < i → 0 ≤ idx (l.take i) (nat l i).par ∧ stP (nat l i).kind (nat l k).kind = true) ∧ (plk l i (nat l i).par).2 ≠ 30 := by
  rw [okAt_true, plk_there, plk_dpt l i]
  refine and_congr_right fun _ => and_congr_right fun _ => ?_
  have hlt := idx_lt (l.take i) (nat l i).par
  have htl := List.length_take_le i l
  by_cases h : 0 ≤ idx (l.take i) (nat l i).par
  · have e : plk l i (nat l i).par = (idx (l.take i) (nat l i).par, dpt l (idx (l.take i) (nat l i).par).toNat) := by unfold plk; rw [if_pos h]
    rw [e] at hpk ⊢
    simp only at hpk ⊢
    have hk : (pix l i).toNat = k := by unfold pix; omega
    have hk2 : (idx (l.take i) (nat l i).par).toNat = k := by omega
    have hok := okAt_true.1 (hj k (by omega))
    have hpi : 0 ≤ pix l i := h
    rw [hk, hk2, stP_eq (fm_kind hok.1)]
    have := hok.2.2.2
    constructor
    · rintro ⟨a, b⟩; exact ⟨fun h0 => ⟨h, (a h0).2⟩, by omega⟩
    · rintro ⟨a, b⟩; exact ⟨fun h0 => ⟨hpi, (a h0).2⟩, by omega⟩
  · have e : plk l i (nat l i).par = (0, 0) := by unfold plk; rw [if_neg h]
    rw [e]
    have hpi : ¬ 0 ≤ pix l i := h
    simp only
    constructor
    · rintro ⟨a, b⟩; exact ⟨fun h0 => absurd (a h0).1 hpi, by decide⟩
    · rintro ⟨a, b⟩; exact ⟨fun h0 => absurd (a h0).1 h, by decide⟩
theorem plk_two (l : List Nd) {i : Nat} (hj : ∀ j, j < i → okAt l j = true) (k : Int) : 0 ≤ (plk l i k).2 ∧ (plk l i k).2 ≤ 30 := by
  have hlt := idx_lt (l.take i) k
  have htl := List.length_take_le i l
  unfold plk
  split
  · have h1 := dpt_pos l (idx (l.take i) k).toNat
    have h2 := (okAt_true.1 (hj (idx (l.take i) k).toNat (by omega))).2.2.2
    exact ⟨by omega, h2⟩
  · exact ⟨Int.le_refl _, by decide⟩
/-! ### The places of a whole tree -/
def fi (l : List Nd) (k : Int) : Int := if 0 ≤ idx l k then idx l k else 0
def fd (l : List Nd) (k : Int) : Int := if 0 ≤ idx l k then dpt l (idx l k).toNat else 0
theorem plk_full (l : List Nd) (k : Int) : plk l l.length k = (fi l k, fd l k) := by
  unfold plk fi fd
  rw [List.take_length]
  split <;> rfl
theorem pl_getF (l : List Nd) (k : Int) : mget (.int .i64 k) (plE l l.length) = some (if 0 ≤ idx l k then some (.ag [.int .i64 (fi l k), .int .i64 (fd l k)]) else none) := by
  have := pl_get l (Nat.le_refl l.length) k
  rwa [plk_full, List.take_length] at this
theorem pl_lookF (l : List Nd) (k : Int) : lookD true (.ag [.int .i64 0, .int .i64 0]) (if 0 ≤ idx l k then some (.ag [.int .i64 (fi l k), .int .i64 (fd l k)]) else none) = .tup [.ag [.int .i64 (fi l k), .int .i64 (fd l k)], .bool (decide (0 ≤ idx l k))] := by
  have := pl_look l l.length k
  rwa [plk_full, List.take_length] at this
theorem pl_lookF' (l : List Nd) (k : Int) : lookD false (.ag [.int .i64 0, .int .i64 0]) (if 0 ≤ idx l k then some (.ag [.int .i64 (fi l k), .int .i64 (fd l k)]) else none) = .ag [.int .i64 (fi l k), .int .i64 (fd l k)] := by
  have := pl_look' l l.length k
  rwa [plk_full, List.take_length] at this
theorem fi_nat {l : List Nd} (h : 0 < l.length) (k : Int) : ∃ i : Nat, fi l k = (i : Int) ∧ i < l.length := by
  have := idx_lt l k
  unfold fi
  split
  · exact ⟨(idx l k).toNat, by omega, by omega⟩
  · exact ⟨0, rfl, h⟩
theorem fi_max (l : List Nd) (k : Int) : mxI (idx l k) 0 = fi l k := by
  have := idx_ge l k
  unfold mxI fi
  split <;> split <;> omega

/-! ### The reference's depths -/
def depB (l : List Nd) : Bool := decide (l.length = 0 ∨ ((nat l 0).par = 0 ∧ (nat l 0).kind = 1)) && (List.range l.length).all fun i => decide (i = 0) || (decide (0 ≤ pix l i) && stR (nat l i).kind (nat l (pix l i).toNat).kind)
def depL (l : List Nd) (i : Nat) : List Int := (List.range i).map (dpt l)
theorem depL_len (l : List Nd) (i : Nat) : (depL l i).length = i := by simp [depL]
theorem depL_at {l : List Nd} {i j : Nat} (h : j < i) : iat (depL l i) j = dpt l j := by simp [iat, depL, h]
theorem depL_succ (l : List Nd) (i : Nat) : depL l (i + 1) = depL l i ++ [dpt l i] := by simp [depL, List.range_succ]
theorem pix_zero (l : List Nd) : pix l 0 = -1 := by
  unfold pix
  rw [List.take_zero]
  rfl
theorem dpt_zero (l : List Nd) : dpt l 0 = 1 := by rw [dpt_eq, pix_zero]; rfl
theorem dpt_le (l : List Nd) : ∀ i : Nat, dpt l i ≤ (i : Int) + 1 := by
  intro i
  induction i using Nat.strongRecOn with
  | ind i ih =>
    rw [dpt_eq]
    have h1 := pix_lt l i
    split
    · have := ih (pix l i).toNat (by omega)
      omega
    · omega
theorem depB_true {l : List Nd} : depB l = true ↔ (l.length = 0 ∨ ((nat l 0).par = 0 ∧ (nat l 0).kind = 1)) ∧ ∀ i, 0 < i → i < l.length → 0 ≤ pix l i ∧ stR (nat l i).kind (nat l (pix l i).toNat).kind = true := by
  unfold depB
  simp only [Bool.and_eq_true, decide_eq_true_eq, List.all_eq_true, List.mem_range, Bool.or_eq_true]
  refine and_congr_right fun _ => ⟨fun h i h0 hi => ?_, fun h i hi => ?_⟩
  · rcases h i hi with h | h
    · omega
    · exact h
  · rcases Nat.eq_zero_or_pos i with h0 | h0
    · exact .inl h0
    · exact .inr (h i h0 hi)
theorem tre_dep {l : List Nd} (h1 : 1 ≤ l.length ∧ l.length ≤ 4000) (h2 : ∀ j, j < l.length → fmB (nat l j) = true ∧ idx (l.take j) (nat l j).id = -1) : treB l = (depB l && decide (∀ j, j < l.length → dpt l j ≤ 30)) := by
  rw [Bool.eq_iff_iff, treB_true]
  simp only [Bool.and_eq_true, decide_eq_true_eq, depB_true]
  constructor
  · intro t
    exact ⟨⟨.inr t.root, t.up⟩, t.deep⟩
  · rintro ⟨⟨a, b⟩, c⟩
    exact ⟨h1, a.resolve_left (by omega), fun i hi => (h2 i hi).1, fun i hi => (h2 i hi).2, b, c⟩
end Go.Proofs.YtjjkgeeafjagkaaGreat
