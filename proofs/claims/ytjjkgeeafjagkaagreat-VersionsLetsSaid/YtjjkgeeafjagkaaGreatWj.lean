/- The walks of versions' Same and Few. Printed by a tool of our own. -/
import Derived.Test.YtjjkgeeafjagkaaGreatJLc
import Derived.Test.YtjjkgeeafjagkaaGreatWg
import Derived.Test.YtjjkgeeafjagkaaGreatWh
import Derived.Test.YtjjkgeeafjagkaaGreatWk
namespace Go.Proofs.YtjjkgeeafjagkaaGreat
open Go Go.RowKit
set_option linter.unusedSimpArgs false
set_option linter.unusedVariables false
set_option maxHeartbeats 4000000
set_option maxRecDepth 100000
def fewV (l : List Ve) : Bool := decide (l.length ≤ 55) && l.all fun v => fewD v.doc
attribute [local go_sem] List.length_map rowAt_n nrow rowAt_t trow rowAt_i irow
attribute [local go_sem] rowAt_e rowAt_tm rowAt_dc rowAt_ru tmrow dcrow rurow
attribute [local go_sem] rowAt_br rowAt_s rowAt_fo rowAt_ve rowAt_g rowAt_k grow krow srow brrow forow dorow verow
theorem samev_w (l : List Ve) (t u : Tok) : PCall Tryz.prog (.func 15) [.sl 6 (l.map verow) t, .sl 6 (l.map verow) u] (.bool true) := by
  refine PCall.ok fun hok => ?_
  simp only [okAll, D.ok, okRows, and_true, true_and, lim_eq, inR_i64', inR_i32', inR_u8', inR_u16', inR_u64'] at hok
  obtain ⟨⟨hl, hr⟩, _⟩ := hok; rw [List.length_map] at hl
  refine PCall.le ?_
  refine fn_ Tryz.func15 (by rfl) (by rfl) (rs := [.tmp 4]) (by rfl) (by simp [Tryz.f15]) ?_
  refine sq ?_
  refine rg [0, 1] [] [] (by kernel_rfl) ?_; intro κ ξ hκ hξ
  try simp +decide only [go_sem, Nat.reduceMul, Nat.reduceAdd, Nat.reduceBEq, cond_false]
  repeat with_reducible refine And.intro (by first | assumption | omega | (simp; done) | (simp; omega) | (intro hg; simp +decide only [go_sem, hg]; done) | (intro hg; simp +decide only [go_sem, hg]; omega)) ?_
  refine hκ _ _ ?_; clear hκ hξ ξ κ
  refine sq ?_
  refine sq ?_
  refine rg [0, 1, 10] [] [] (by kernel_rfl) ?_; intro κ ξ hκ hξ
  try simp +decide only [go_sem, Nat.reduceMul, Nat.reduceAdd, Nat.reduceBEq, cond_false]
  repeat with_reducible refine And.intro (by first | assumption | omega | (simp; done) | (simp; omega) | (intro hg; simp +decide only [go_sem, hg]; done) | (intro hg; simp +decide only [go_sem, hg]; omega)) ?_
  refine hκ _ _ ?_; clear hκ hξ ξ κ
  refine cdf (by rfl) ?_
  refine sk ?_
  refine sq ?_
  refine sq ?_
  refine rg [0, 1, 5] [] [] (by kernel_rfl) ?_; intro κ ξ hκ hξ
  try simp +decide only [go_sem, Nat.reduceMul, Nat.reduceAdd, Nat.reduceBEq, cond_false]
  repeat with_reducible refine And.intro (by first | assumption | omega | (simp; done) | (simp; omega) | (intro hg; simp +decide only [go_sem, hg]; done) | (intro hg; simp +decide only [go_sem, hg]; omega)) ?_
  refine hκ _ _ ?_; clear hκ hξ ξ κ
  refine bl ?_
  refine lp (α := Nat) (fun i => mk [(0, .sl 6 (l.map verow) t), (1, .sl 6 (l.map verow) u), (5, .int .i64 i)]) (fun _ => []) (fun i => i ≤ l.length) (fun i => l.length - i) 0 ⟨by omega, EnvLe.of_eq rfl, .refl _⟩ ?_
  rintro i hi
  refine sq ?_
  refine sq ?_
  refine rg [0, 1, 5, 14] [] [] (by kernel_rfl) ?_; intro κ ξ hκ hξ
  try simp +decide only [go_sem, Nat.reduceMul, Nat.reduceAdd, Nat.reduceBEq, cond_false]
  repeat with_reducible refine And.intro (by first | assumption | omega | (simp; done) | (simp; omega) | (intro hg; simp +decide only [go_sem, hg]; done) | (intro hg; simp +decide only [go_sem, hg]; omega)) ?_
  refine hκ _ _ ?_; clear hκ hξ ξ κ
  refine cd (by rfl) (fun c0 => ?_) (fun c0 => ?_)
  · try simp only [go_sem] at c0
    refine sk ?_
    refine sq ?_
    refine bl ?_
    refine sq ?_
    refine rgd [0, 1, 5, 54] [] [52] [(11, 28), (24, 41)] (by kernel_rfl) (by kernel_rfl) ?_; intro κ ξ hκ hξ
    try simp +decide only [go_sem, Nat.reduceMul, Nat.reduceAdd, Nat.reduceBEq, cond_false, c0]
    repeat with_reducible refine And.intro (by first | assumption | omega | (simp; done) | (simp; omega) | (intro hg; simp +decide only [go_sem, hg]; done) | (intro hg; simp +decide only [go_sem, hg]; omega)) ?_
    refine vd_gc (by rfl) ?_; simp +decide only [go_sem, c0]; refine gcallF (fun hg => ⟨by first | rfl | (simp +decide only [go_sem, hg, c0]; done) | exact hg | simpa using hg, samed_w _⟩) ?_
    try simp +decide only [go_sem, Nat.reduceMul, Nat.reduceAdd, Nat.reduceBEq, cond_false, c0]
    repeat with_reducible refine And.intro (by first | assumption | omega | (simp; done) | (simp; omega) | (intro hg; simp +decide only [go_sem, hg]; done) | (intro hg; simp +decide only [go_sem, hg]; omega)) ?_
    refine hκ _ _ ?_; clear hκ hξ ξ κ
    refine cdf (by rfl) ?_
    refine sk ?_
    refine rg [0, 1, 5] [] [] (by kernel_rfl) ?_; intro κ ξ hκ hξ
    try simp +decide only [go_sem, Nat.reduceMul, Nat.reduceAdd, Nat.reduceBEq, cond_false, c0]
    repeat with_reducible refine And.intro (by first | assumption | omega | (simp; done) | (simp; omega) | (intro hg; simp +decide only [go_sem, hg]; done) | (intro hg; simp +decide only [go_sem, hg]; omega)) ?_
    refine hκ _ _ ?_; clear hκ hξ ξ κ
    refine ⟨i + 1, ⟨by omega, by omega⟩, EnvLe.of_eq (by rw [w64 (by omega)]; rfl), List.nil_sublist _⟩
  · try simp only [go_sem] at c0
    refine ex ?_
    refine sq ?_
    refine rg [4] [] [] (by kernel_rfl) ?_; intro κ ξ hκ hξ
    try simp +decide only [go_sem, Nat.reduceMul, Nat.reduceAdd, Nat.reduceBEq, cond_false, c0]
    repeat with_reducible refine And.intro (by first | assumption | omega | (simp; done) | (simp; omega) | (intro hg; simp +decide only [go_sem, hg]; done) | (intro hg; simp +decide only [go_sem, hg]; omega)) ?_
    refine hκ _ _ ?_; clear hκ hξ ξ κ
    refine rt ?_
    refine retE ?_
    simp +decide only [go_sem, resD, resV, c0]
    

theorem fewv_w (l : List Ve) (t : Tok) : PCall Tryz.prog (.func 9) [.sl 6 (l.map verow) t] (.bool (fewV l)) := by
  refine PCall.ok fun hok => ?_
  simp only [okAll, D.ok, okRows, and_true, true_and, lim_eq, inR_i64', inR_i32', inR_u8', inR_u16', inR_u64'] at hok
  obtain ⟨hl, hr⟩ := hok; rw [List.length_map] at hl
  refine PCall.le ?_
  refine fn_ Tryz.func9 (by rfl) (by rfl) (rs := [.tmp 2]) (by rfl) (by simp [Tryz.f9]) ?_
  refine sq ?_
  refine rg [0] [] [] (by kernel_rfl) ?_; intro κ ξ hκ hξ
  try simp +decide only [go_sem, Nat.reduceMul, Nat.reduceAdd, Nat.reduceBEq, cond_false]
  repeat with_reducible refine And.intro (by first | assumption | omega | (simp; done) | (simp; omega) | (intro hg; simp +decide only [go_sem, hg]; done) | (intro hg; simp +decide only [go_sem, hg]; omega)) ?_
  refine hκ _ _ ?_; clear hκ hξ ξ κ
  refine sq ?_
  refine sq ?_
  refine rg [0, 3] [] [] (by kernel_rfl) ?_; intro κ ξ hκ hξ
  try simp +decide only [go_sem, Nat.reduceMul, Nat.reduceAdd, Nat.reduceBEq, cond_false]
  repeat with_reducible refine And.intro (by first | assumption | omega | (simp; done) | (simp; omega) | (intro hg; simp +decide only [go_sem, hg]; done) | (intro hg; simp +decide only [go_sem, hg]; omega)) ?_
  refine hκ _ _ ?_; clear hκ hξ ξ κ
  refine bl ?_
  refine lp (α := Nat) (fun i => mk [(0, .sl 6 (l.map verow) t), (3, .int .i64 i)]) (fun i => []) (fun i => i ≤ l.length ∧ ∀ j, j < i → fewD (veat l j).doc = true) (fun i => l.length - i) 0 ⟨⟨by omega, by intro j hj; omega⟩, EnvLe.of_eq rfl, .refl _⟩ ?_
  rintro i ⟨hi, hj⟩
  refine sq ?_
  refine sq ?_
  refine rg [0, 3, 8] [] [] (by kernel_rfl) ?_; intro κ ξ hκ hξ
  try simp +decide only [go_sem, Nat.reduceMul, Nat.reduceAdd, Nat.reduceBEq, cond_false]
  repeat with_reducible refine And.intro (by first | assumption | omega | (simp; done) | (simp; omega) | (intro hg; simp +decide only [go_sem, hg]; done) | (intro hg; simp +decide only [go_sem, hg]; omega)) ?_
  refine hκ _ _ ?_; clear hκ hξ ξ κ
  refine cd (by rfl) (fun c0 => ?_) (fun c0 => ?_)
  · try simp only [go_sem] at c0
    refine sk ?_
    refine sq ?_
    refine bl ?_
    refine sq ?_
    refine rg [0, 3, 4] [] [] (by kernel_rfl) ?_; intro κ ξ hκ hξ
    try simp +decide only [go_sem, Nat.reduceMul, Nat.reduceAdd, Nat.reduceBEq, cond_false, c0]
    repeat with_reducible refine And.intro (by first | assumption | omega | (simp; done) | (simp; omega) | (intro hg; simp +decide only [go_sem, hg]; done) | (intro hg; simp +decide only [go_sem, hg]; omega)) ?_
    refine callF (fewd_w _) ?_
    try simp +decide only [go_sem, Nat.reduceMul, Nat.reduceAdd, Nat.reduceBEq, cond_false, c0]
    repeat with_reducible refine And.intro (by first | assumption | omega | (simp; done) | (simp; omega) | (intro hg; simp +decide only [go_sem, hg]; done) | (intro hg; simp +decide only [go_sem, hg]; omega)) ?_
    refine hκ _ _ ?_; clear hκ hξ ξ κ
    refine sq ?_
    refine rg [0, 3, 18] [] [] (by kernel_rfl) ?_; intro κ ξ hκ hξ
    try simp +decide only [go_sem, Nat.reduceMul, Nat.reduceAdd, Nat.reduceBEq, cond_false, c0]
    repeat with_reducible refine And.intro (by first | assumption | omega | (simp; done) | (simp; omega) | (intro hg; simp +decide only [go_sem, hg]; done) | (intro hg; simp +decide only [go_sem, hg]; omega)) ?_
    refine hκ _ _ ?_; clear hκ hξ ξ κ
    refine cd (by rfl) (fun c1 => ?_) (fun c1 => ?_)
    · try simp only [go_sem] at c1
      refine sq ?_
      refine rg [2] [] [] (by kernel_rfl) ?_; intro κ ξ hκ hξ
      try simp +decide only [go_sem, Nat.reduceMul, Nat.reduceAdd, Nat.reduceBEq, cond_false, c0, c1]
      repeat with_reducible refine And.intro (by first | assumption | omega | (simp; done) | (simp; omega) | (intro hg; simp +decide only [go_sem, hg]; done) | (intro hg; simp +decide only [go_sem, hg]; omega)) ?_
      refine hκ _ _ ?_; clear hκ hξ ξ κ
      refine rt ?_
      refine retE ?_
      simp +decide only [go_sem, resD, resV, c0, c1]
      congr 1
      unfold fewV
      rw [all_no ve0 (p := fun v => fewD v.doc) (j := i) (by omega) (by assumption)]
      simp
    · try simp only [go_sem] at c1
      refine sk ?_
      refine rg [0, 3] [] [] (by kernel_rfl) ?_; intro κ ξ hκ hξ
      try simp +decide only [go_sem, Nat.reduceMul, Nat.reduceAdd, Nat.reduceBEq, cond_false, c0, c1]
      repeat with_reducible refine And.intro (by first | assumption | omega | (simp; done) | (simp; omega) | (intro hg; simp +decide only [go_sem, hg]; done) | (intro hg; simp +decide only [go_sem, hg]; omega)) ?_
      refine hκ _ _ ?_; clear hκ hξ ξ κ
      refine ⟨i + 1, ⟨⟨by omega, ?_⟩, by omega⟩, EnvLe.of_eq (by rw [w64 (by omega)]; rfl), List.nil_sublist _⟩
      intro j h
      rcases Nat.lt_succ_iff_lt_or_eq.1 h with h | rfl
      · exact hj j h
      · assumption
  · try simp only [go_sem] at c0
    refine ex ?_
    refine sq ?_
    refine rg [2] [] [] (by kernel_rfl) ?_; intro κ ξ hκ hξ
    try simp +decide only [go_sem, Nat.reduceMul, Nat.reduceAdd, Nat.reduceBEq, cond_false, c0]
    repeat with_reducible refine And.intro (by first | assumption | omega | (simp; done) | (simp; omega) | (intro hg; simp +decide only [go_sem, hg]; done) | (intro hg; simp +decide only [go_sem, hg]; omega)) ?_
    refine hκ _ _ ?_; clear hκ hξ ξ κ
    refine rt ?_
    refine retE ?_
    simp +decide only [go_sem, resD, resV, c0]
    congr 1
    unfold fewV
    rw [(all_at ve0).2 fun j h => hj j (by omega), Bool.and_true, decide_eq_decide]
    omega

theorem usab_w (l : List Ve) (t : Tok) : PCall Tryz.prog (.func 23) [.sl 6 (l.map verow) t] (.bool (fewV l && verB l)) := by
  refine PCall.le ?_
  refine fn_ Tryz.func23 (by rfl) (by rfl) (rs := [.tmp 2]) (by rfl) (by simp [Tryz.f23]) ?_
  refine sq ?_
  refine rg [0] [] [] (by kernel_rfl) ?_; intro κ ξ hκ hξ
  try simp +decide only [go_sem, Nat.reduceMul, Nat.reduceAdd, Nat.reduceBEq, cond_false]
  repeat with_reducible refine And.intro (by first | assumption | omega | (simp; done) | (simp; omega) | (intro hg; simp +decide only [go_sem, hg]; done) | (intro hg; simp +decide only [go_sem, hg]; omega)) ?_
  refine hκ _ _ ?_; clear hκ hξ ξ κ
  refine sq ?_
  refine rg [2] [] [(2, 5)] (by kernel_rfl) ?_; intro κ ξ hκ hξ
  try simp +decide only [go_sem, Nat.reduceMul, Nat.reduceAdd, Nat.reduceBEq, cond_false]
  repeat with_reducible refine And.intro (by first | assumption | omega | (simp; done) | (simp; omega) | (intro hg; simp +decide only [go_sem, hg]; done) | (intro hg; simp +decide only [go_sem, hg]; omega)) ?_
  refine callF (fewv_w _ _) ?_
  try simp +decide only [go_sem, Nat.reduceMul, Nat.reduceAdd, Nat.reduceBEq, cond_false]
  repeat with_reducible refine And.intro (by first | assumption | omega | (simp; done) | (simp; omega) | (intro hg; simp +decide only [go_sem, hg]; done) | (intro hg; simp +decide only [go_sem, hg]; omega)) ?_
  refine vo_gc ?_; simp +decide only [go_sem]; refine gcallF (fun hg => ⟨by first | rfl | (simp +decide only [go_sem, hg]; done) | exact hg | simpa using hg, rver_w _ _⟩) ?_
  try simp +decide only [go_sem, Nat.reduceMul, Nat.reduceAdd, Nat.reduceBEq, cond_false]
  repeat with_reducible refine And.intro (by first | assumption | omega | (simp; done) | (simp; omega) | (intro hg; simp +decide only [go_sem, hg]; done) | (intro hg; simp +decide only [go_sem, hg]; omega)) ?_
  refine hκ _ _ ?_; clear hκ hξ ξ κ
  refine rt ?_
  refine retE ?_
  simp +decide only [go_sem, resD, resV]
  

end Go.Proofs.YtjjkgeeafjagkaaGreat
/- The walk of the reference's Doc of versions. Printed by a tool of our own. -/
namespace Go.Proofs.YtjjkgeeafjagkaaGreat
open Go Go.RowKit
set_option linter.unusedSimpArgs false
set_option linter.unusedVariables false
set_option maxHeartbeats 4000000
set_option maxRecDepth 100000
attribute [local go_sem] List.length_map rowAt_n nrow rowAt_t trow rowAt_i irow
attribute [local go_sem] rowAt_e rowAt_tm rowAt_dc rowAt_ru tmrow dcrow rurow
attribute [local go_sem] rowAt_br rowAt_s rowAt_fo rowAt_ve rowAt_g rowAt_k grow krow srow brrow forow dorow verow
theorem rvdoc_w (l : List Ve) (t : Tok) (n : Int) : PCall Tryz.prog (.func 21) [.sl 6 (l.map verow) t, .int .i64 n] (.tup [.ag (dorow (docR l n).1), .int .i64 (docR l n).2]) := by
  refine PCall.ok fun hok => ?_
  simp only [okAll, D.ok, okRows, and_true, true_and, lim_eq, inR_i64', inR_i32', inR_u8', inR_u16', inR_u64'] at hok
  obtain ⟨⟨hl, hr⟩, hx⟩ := hok; rw [List.length_map] at hl
  refine PCall.le ?_
  refine fn_ Tryz.func21 (by rfl) (by rfl) (rs := [.cell 4 28, .tmp 5]) (by rfl) (by simp [Tryz.f21]) ?_
  refine sq ?_
  refine rg [0, 1, 4] [] [] (by kernel_rfl) ?_; intro κ ξ hκ hξ
  try simp +decide only [go_sem, Nat.reduceMul, Nat.reduceAdd, Nat.reduceBEq, cond_false]
  repeat with_reducible refine And.intro (by first | assumption | omega | (simp; done) | (simp; omega) | (intro hg; simp +decide only [go_sem, hg]; done) | (intro hg; simp +decide only [go_sem, hg]; omega)) ?_
  intro b4 hb4
  try simp +decide only [go_sem, Nat.reduceMul, Nat.reduceAdd, Nat.reduceBEq, cond_false, hb4]
  repeat with_reducible refine And.intro (by first | assumption | omega | (simp; done) | (simp; omega) | (intro hg; simp +decide only [go_sem, hg]; done) | (intro hg; simp +decide only [go_sem, hg]; omega)) ?_
  refine hκ _ _ ?_; clear hκ hξ ξ κ
  refine sq ?_
  refine rg [0, 1, 4, 6] [] [] (by kernel_rfl) ?_; intro κ ξ hκ hξ
  try simp +decide only [go_sem, Nat.reduceMul, Nat.reduceAdd, Nat.reduceBEq, cond_false, hb4]
  repeat with_reducible refine And.intro (by first | assumption | omega | (simp; done) | (simp; omega) | (intro hg; simp +decide only [go_sem, hg]; done) | (intro hg; simp +decide only [go_sem, hg]; omega)) ?_
  refine callF (rver_w _ _) ?_
  try simp +decide only [go_sem, Nat.reduceMul, Nat.reduceAdd, Nat.reduceBEq, cond_false, hb4]
  repeat with_reducible refine And.intro (by first | assumption | omega | (simp; done) | (simp; omega) | (intro hg; simp +decide only [go_sem, hg]; done) | (intro hg; simp +decide only [go_sem, hg]; omega)) ?_
  refine hκ _ _ ?_; clear hκ hξ ξ κ
  refine sq ?_
  refine sq ?_
  refine rg [0, 1, 4, 11] [] [] (by kernel_rfl) ?_; intro κ ξ hκ hξ
  try simp +decide only [go_sem, Nat.reduceMul, Nat.reduceAdd, Nat.reduceBEq, cond_false, hb4]
  repeat with_reducible refine And.intro (by first | assumption | omega | (simp; done) | (simp; omega) | (intro hg; simp +decide only [go_sem, hg]; done) | (intro hg; simp +decide only [go_sem, hg]; omega)) ?_
  refine hκ _ _ ?_; clear hκ hξ ξ κ
  refine cd (by rfl) (fun c0 => ?_) (fun c0 => ?_)
  · simp only [go_sem] at c0
    refine sq ?_
    refine rg [4, 5] [] [] (by kernel_rfl) ?_; intro κ ξ hκ hξ
    try simp +decide only [go_sem, Nat.reduceMul, Nat.reduceAdd, Nat.reduceBEq, cond_false, hb4, c0]
    repeat with_reducible refine And.intro (by first | assumption | omega | (simp; done) | (simp; omega) | (intro hg; simp +decide only [go_sem, hg]; done) | (intro hg; simp +decide only [go_sem, hg]; omega)) ?_
    refine hκ _ _ ?_; clear hκ hξ ξ κ
    refine rt ?_
    refine retL ?_
    simp +decide only [go_sem, resD, resV, hb4, c0]
    have e : docR l n = (do0, 1) := by
      unfold docR
      rw [if_pos c0]
    rw [e]
    exact DLe.tup ⟨DLe.ag ⟨DLe.nil _ _ _, DLe.nil _ _ _, DLe.nil _ _ _, DLe.nil _ _ _, trivial⟩, DLe.refl _, trivial⟩
  · simp only [go_sem] at c0
    have hv := c0
    refine sk ?_
    refine sq ?_
    refine rg [0, 4, 7] [] [] (by kernel_rfl) ?_; intro κ ξ hκ hξ
    try simp +decide only [go_sem, Nat.reduceMul, Nat.reduceAdd, Nat.reduceBEq, cond_false, hb4, c0]
    repeat with_reducible refine And.intro (by first | assumption | omega | (simp; done) | (simp; omega) | (intro hg; simp +decide only [go_sem, hg]; done) | (intro hg; simp +decide only [go_sem, hg]; omega)) ?_
    refine callF (vix_w _ _ _) ?_
    try simp +decide only [go_sem, Nat.reduceMul, Nat.reduceAdd, Nat.reduceBEq, cond_false, hb4, c0]
    repeat with_reducible refine And.intro (by first | assumption | omega | (simp; done) | (simp; omega) | (intro hg; simp +decide only [go_sem, hg]; done) | (intro hg; simp +decide only [go_sem, hg]; omega)) ?_
    refine hκ _ _ ?_; clear hκ hξ ξ κ
    refine sq ?_
    refine sq ?_
    refine rg [0, 4, 7, 17] [] [] (by kernel_rfl) ?_; intro κ ξ hκ hξ
    try simp +decide only [go_sem, Nat.reduceMul, Nat.reduceAdd, Nat.reduceBEq, cond_false, hb4, c0]
    repeat with_reducible refine And.intro (by first | assumption | omega | (simp; done) | (simp; omega) | (intro hg; simp +decide only [go_sem, hg]; done) | (intro hg; simp +decide only [go_sem, hg]; omega)) ?_
    refine hκ _ _ ?_; clear hκ hξ ξ κ
    refine cd (by rfl) (fun c1 => ?_) (fun c1 => ?_)
    · simp only [go_sem] at c1
      refine sq ?_
      refine rg [4, 5] [] [] (by kernel_rfl) ?_; intro κ ξ hκ hξ
      try simp +decide only [go_sem, Nat.reduceMul, Nat.reduceAdd, Nat.reduceBEq, cond_false, hb4, c0, c1]
      repeat with_reducible refine And.intro (by first | assumption | omega | (simp; done) | (simp; omega) | (intro hg; simp +decide only [go_sem, hg]; done) | (intro hg; simp +decide only [go_sem, hg]; omega)) ?_
      refine hκ _ _ ?_; clear hκ hξ ξ κ
      refine rt ?_
      refine retL ?_
      simp +decide only [go_sem, resD, resV, hb4, c0, c1]
      have e : docR l n = (do0, 4) := by
        unfold docR
        rw [hv, if_neg (by simp), if_pos (by omega)]
      rw [e]
      exact DLe.tup ⟨DLe.ag ⟨DLe.nil _ _ _, DLe.nil _ _ _, DLe.nil _ _ _, DLe.nil _ _ _, trivial⟩, DLe.refl _, trivial⟩
    · simp only [go_sem] at c1
      obtain ⟨k, hk, hkN⟩ : ∃ k : Nat, vix l n = (k : Int) ∧ k < l.length := by
        rcases vix_cases l n with ⟨i, h1, _, _, h2⟩ | ⟨_, h2⟩
        · exact ⟨i, h2, h1⟩
        · omega
      have hk0 : (0 : Int) ≤ (k : Int) := by omega
      have hkn : ¬ (k : Int) < 0 := by omega
      have hkl : (k : Int) < l.length := by omega
      have hvk := vok_true.1 ((ver_true.1 hv).2 k hkN)
      refine sk ?_
      refine sq ?_
      refine rg [4, 5] [] [] (by kernel_rfl) ?_; intro κ ξ hκ hξ
      try simp +decide only [go_sem, Nat.reduceMul, Nat.reduceAdd, Nat.reduceBEq, cond_false, hb4, c0, c1, hk, hk0, hkn, hkl, if_true]
      repeat with_reducible refine And.intro (by first | assumption | omega | (simp; done) | (simp; omega) | (intro hg; simp +decide only [go_sem, hg]; done) | (intro hg; simp +decide only [go_sem, hg]; omega)) ?_
      refine hκ _ _ ?_; clear hκ hξ ξ κ
      refine rt ?_
      refine retL ?_
      simp +decide only [go_sem, resD, resV, hb4, c0, c1, hk, hk0, hkn, hkl, if_true]
      have e : docR l n = ((veat l k).doc, 0) := by
        unfold docR
        rw [hv, if_neg (by simp), hk, if_neg (by omega), Int.toNat_natCast]
      rw [e]
      exact DLe.refl _

end Go.Proofs.YtjjkgeeafjagkaaGreat
/- The walk of the reference's Push of versions. Printed by a tool of our own. -/
namespace Go.Proofs.YtjjkgeeafjagkaaGreat
open Go Go.RowKit
set_option linter.unusedSimpArgs false
set_option linter.unusedVariables false
set_option maxHeartbeats 4000000
set_option maxRecDepth 100000
attribute [local go_sem] List.length_map rowAt_n nrow rowAt_t trow rowAt_i irow
attribute [local go_sem] rowAt_e rowAt_tm rowAt_dc rowAt_ru tmrow dcrow rurow
attribute [local go_sem] rowAt_br rowAt_s rowAt_fo rowAt_ve rowAt_g rowAt_k grow krow srow brrow forow dorow verow
theorem rpush_w (l : List Ve) (t : Tok) (d : Do) : PCall Tryz.prog (.func 12) [.sl 6 (l.map verow) t, .ag (dorow d)] (.tup [.sl 6 ((pushR l d).1.map verow) .no, .int .i64 (pushR l d).2]) := by
  refine PCall.ok fun hok => ?_
  simp only [okAll, D.ok, okRows, and_true, true_and, lim_eq, inR_i64', inR_i32', inR_u8', inR_u16', inR_u64'] at hok
  obtain ⟨⟨hl, hr⟩, hd⟩ := hok; rw [List.length_map] at hl
  refine PCall.le ?_
  refine fn_ Tryz.func12 (by rfl) (by rfl) (rs := [.tmp 4, .tmp 5]) (by rfl) (by simp [Tryz.f12]) ?_
  refine sq ?_
  refine rg [0, 3] [3] [] (by kernel_rfl) ?_; intro κ ξ hκ hξ
  try simp +decide only [go_sem, Nat.reduceMul, Nat.reduceAdd, Nat.reduceBEq, cond_false]
  repeat with_reducible refine And.intro (by first | assumption | omega | (simp; done) | (simp; omega) | (intro hg; simp +decide only [go_sem, hg]; done) | (intro hg; simp +decide only [go_sem, hg]; omega)) ?_
  refine hκ _ _ ?_; clear hκ hξ ξ κ
  refine sq ?_
  refine rg [0, 3, 6] [] [] (by kernel_rfl) ?_; intro κ ξ hκ hξ
  try simp +decide only [go_sem, Nat.reduceMul, Nat.reduceAdd, Nat.reduceBEq, cond_false]
  repeat with_reducible refine And.intro (by first | assumption | omega | (simp; done) | (simp; omega) | (intro hg; simp +decide only [go_sem, hg]; done) | (intro hg; simp +decide only [go_sem, hg]; omega)) ?_
  refine callF (rver_w _ _) ?_
  try simp +decide only [go_sem, Nat.reduceMul, Nat.reduceAdd, Nat.reduceBEq, cond_false]
  repeat with_reducible refine And.intro (by first | assumption | omega | (simp; done) | (simp; omega) | (intro hg; simp +decide only [go_sem, hg]; done) | (intro hg; simp +decide only [go_sem, hg]; omega)) ?_
  refine hκ _ _ ?_; clear hκ hξ ξ κ
  refine sq ?_
  refine rg [0, 3, 6, 7] [] [] (by kernel_rfl) ?_; intro κ ξ hκ hξ
  try simp +decide only [go_sem, Nat.reduceMul, Nat.reduceAdd, Nat.reduceBEq, cond_false]
  repeat with_reducible refine And.intro (by first | assumption | omega | (simp; done) | (simp; omega) | (intro hg; simp +decide only [go_sem, hg]; done) | (intro hg; simp +decide only [go_sem, hg]; omega)) ?_
  refine callF (rcov_w _) ?_
  try simp +decide only [go_sem, Nat.reduceMul, Nat.reduceAdd, Nat.reduceBEq, cond_false]
  repeat with_reducible refine And.intro (by first | assumption | omega | (simp; done) | (simp; omega) | (intro hg; simp +decide only [go_sem, hg]; done) | (intro hg; simp +decide only [go_sem, hg]; omega)) ?_
  refine hκ _ _ ?_; clear hκ hξ ξ κ
  refine sq ?_
  refine sq ?_
  refine rg [0, 3, 20] [] [(2, 17)] (by kernel_rfl) ?_; intro κ ξ hκ hξ
  try simp +decide only [go_sem, Nat.reduceMul, Nat.reduceAdd, Nat.reduceBEq, cond_false]
  repeat with_reducible refine And.intro (by first | assumption | omega | (simp; done) | (simp; omega) | (intro hg; simp +decide only [go_sem, hg]; done) | (intro hg; simp +decide only [go_sem, hg]; omega)) ?_
  refine hκ _ _ ?_; clear hκ hξ ξ κ
  refine cd (by rfl) (fun c0 => ?_) (fun c0 => ?_)
  · simp only [go_sem] at c0
    refine sq ?_
    refine rg [4, 5] [] [] (by kernel_rfl) ?_; intro κ ξ hκ hξ
    try simp +decide only [go_sem, Nat.reduceMul, Nat.reduceAdd, Nat.reduceBEq, cond_false, c0]
    repeat with_reducible refine And.intro (by first | assumption | omega | (simp; done) | (simp; omega) | (intro hg; simp +decide only [go_sem, hg]; done) | (intro hg; simp +decide only [go_sem, hg]; omega)) ?_
    refine hκ _ _ ?_; clear hκ hξ ξ κ
    refine rt ?_
    refine retL ?_
    simp +decide only [go_sem, resD, resV, c0]
    have e : pushR l d = ([], 1) := by
      unfold pushR
      rw [if_pos (by rintro ⟨a, b⟩; rcases c0 with c0 | c0 <;> simp_all)]
    rw [e]
    exact DLe.tup ⟨DLe.nil 6 0 .nil, DLe.refl _, trivial⟩
  · simp only [go_sem] at c0
    have hv := c0.1
    have hdb := c0.2
    have hl5 := (ver_true.1 hv).1
    refine sk ?_
    refine sq ?_
    refine rg [0, 3, 8] [] [] (by kernel_rfl) ?_; intro κ ξ hκ hξ
    try simp +decide only [go_sem, Nat.reduceMul, Nat.reduceAdd, Nat.reduceBEq, cond_false, c0]
    repeat with_reducible refine And.intro (by first | assumption | omega | (simp; done) | (simp; omega) | (intro hg; simp +decide only [go_sem, hg]; done) | (intro hg; simp +decide only [go_sem, hg]; omega)) ?_
    refine hκ _ _ ?_; clear hκ hξ ξ κ
    refine sq ?_
    refine rg [0, 3, 8, 9] [] [] (by kernel_rfl) ?_; intro κ ξ hκ hξ
    try simp +decide only [go_sem, Nat.reduceMul, Nat.reduceAdd, Nat.reduceBEq, cond_false, c0]
    repeat with_reducible refine And.intro (by first | assumption | omega | (simp; done) | (simp; omega) | (intro hg; simp +decide only [go_sem, hg]; done) | (intro hg; simp +decide only [go_sem, hg]; omega)) ?_
    refine hκ _ _ ?_; clear hκ hξ ξ κ
    refine sq ?_
    refine sq ?_
    refine rg [0, 3, 8, 9, 10] [] [] (by kernel_rfl) ?_; intro κ ξ hκ hξ
    try simp +decide only [go_sem, Nat.reduceMul, Nat.reduceAdd, Nat.reduceBEq, cond_false, c0]
    repeat with_reducible refine And.intro (by first | assumption | omega | (simp; done) | (simp; omega) | (intro hg; simp +decide only [go_sem, hg]; done) | (intro hg; simp +decide only [go_sem, hg]; omega)) ?_
    refine hκ _ _ ?_; clear hκ hξ ξ κ
    refine bl ?_
    refine lp (α := Nat × Option (Nat × Nat)) (fun y => mk [(0, .sl 6 (l.map verow) t), (3, .el [.sl 5 (d.nodes.map nrow) .no, .sl 4 (d.rules.map rurow) .no, .sl 2 (d.fonts.map forow) .no, .sl 3 (d.breaks.map brrow) .no]), (8, apD 6 ((heldI l y.1).map verow) y.2), (9, .int .i64 (nxtI l y.1)), (10, .int .i64 y.1)]) (fun y => apS 6 (heldI l y.1).length y.2) (fun y => y.1 ≤ l.length ∧ apOK ((heldI l y.1).map verow) y.2) (fun y => l.length - y.1) (0, none) ⟨⟨by omega, fun _ => rfl⟩, EnvLe.of_eq rfl, .refl _⟩ ?_
    rintro ⟨i, o⟩ ⟨hi, ho⟩
    simp only at hi ho
    have hhl := heldI_len l i
    refine sq ?_
    refine sq ?_
    refine rg [0, 3, 8, 9, 10, 24] [] [] (by kernel_rfl) ?_; intro κ ξ hκ hξ
    try simp +decide only [go_sem, Nat.reduceMul, Nat.reduceAdd, Nat.reduceBEq, cond_false, c0]
    repeat with_reducible refine And.intro (by first | assumption | omega | (simp; done) | (simp; omega) | (intro hg; simp +decide only [go_sem, hg]; done) | (intro hg; simp +decide only [go_sem, hg]; omega)) ?_
    refine hκ _ _ ?_; clear hκ hξ ξ κ
    refine cd (by rfl) (fun c1 => ?_) (fun c1 => ?_)
    · simp only [go_sem] at c1
      have hvi := (vok_true.1 ((ver_true.1 hv).2 i (by omega))).1
      have hnw : IntKind.wrap .i64 ((veat l i).num + 1) = nxtI l (i + 1) := by
        rw [w64 (by omega)]
        unfold nxtI
        rw [if_pos (by omega), Nat.add_sub_cancel]
      refine sk ?_
      refine sq ?_
      refine bl ?_
      refine sq ?_
      refine sq ?_
      refine rg [0, 3, 8, 10, 32] [] [] (by kernel_rfl) ?_; intro κ ξ hκ hξ
      try simp +decide only [go_sem, Nat.reduceMul, Nat.reduceAdd, Nat.reduceBEq, cond_false, c0, c1, hnw]
      repeat with_reducible refine And.intro (by first | assumption | omega | (simp; done) | (simp; omega) | (intro hg; simp +decide only [go_sem, hg]; done) | (intro hg; simp +decide only [go_sem, hg]; omega)) ?_
      refine hκ _ _ ?_; clear hκ hξ ξ κ
      refine cd (by rfl) (fun c2 => ?_) (fun c2 => ?_)
      · try simp only [go_sem] at c2
        refine rg [0, 3, 8, 10] [] [] (by kernel_rfl) ?_; intro κ ξ hκ hξ
        try simp +decide only [go_sem, Nat.reduceMul, Nat.reduceAdd, Nat.reduceBEq, cond_false, c0, c1, hnw, c2]
        repeat with_reducible refine And.intro (by first | assumption | omega | (simp; done) | (simp; omega) | (intro hg; simp +decide only [go_sem, hg]; done) | (intro hg; simp +decide only [go_sem, hg]; omega)) ?_
        refine napp_grow0 (by first | assumption | omega | (simp; done) | (simp; omega) | (intro hg; simp +decide only [go_sem, hg]; done) | (intro hg; simp +decide only [go_sem, hg]; omega)) (by first | (simp; done) | (simp [*]; done) | omega) rfl rfl (by simp +decide only [go_sem, Option.isSome_some]) tf86 tf87 tf179 (by refine ⟨⟨rfl, by decide, by decide⟩, by simp +decide only [go_sem], by simp, ?_⟩; simp [capB] <;> omega) ?_; intro b39 c39
        try simp +decide only [go_sem, Nat.reduceMul, Nat.reduceAdd, Nat.reduceBEq, cond_false, c0, c1, hnw, c2]
        repeat with_reducible refine And.intro (by first | assumption | omega | (simp; done) | (simp; omega) | (intro hg; simp +decide only [go_sem, hg]; done) | (intro hg; simp +decide only [go_sem, hg]; omega)) ?_
        refine hκ _ _ ?_; clear hκ hξ ξ κ
        refine rg [0, 3, 8, 9, 10] [] [] (by kernel_rfl) ?_; intro κ ξ hκ hξ
        try simp +decide only [go_sem, Nat.reduceMul, Nat.reduceAdd, Nat.reduceBEq, cond_false, c0, c1, hnw, c2]
        repeat with_reducible refine And.intro (by first | assumption | omega | (simp; done) | (simp; omega) | (intro hg; simp +decide only [go_sem, hg]; done) | (intro hg; simp +decide only [go_sem, hg]; omega)) ?_
        refine hκ _ _ ?_; clear hκ hξ ξ κ
        refine rg [0, 3, 8, 9, 10] [] [] (by kernel_rfl) ?_; intro κ ξ hκ hξ
        try simp +decide only [go_sem, Nat.reduceMul, Nat.reduceAdd, Nat.reduceBEq, cond_false, c0, c1, hnw, c2]
        repeat with_reducible refine And.intro (by first | assumption | omega | (simp; done) | (simp; omega) | (intro hg; simp +decide only [go_sem, hg]; done) | (intro hg; simp +decide only [go_sem, hg]; omega)) ?_
        refine hκ _ _ ?_; clear hκ hξ ξ κ
        have e := heldI_t (l := l) (i := i) (by omega) c2
        refine ⟨(i + 1, some (b39, c39)), ⟨⟨by simp only; omega, fun h => by cases h⟩, by simp only; omega⟩, EnvLe.of_eq ?_, ?_⟩
        · rw [w64 (n := (i : Int) + 1) (by omega), e, List.map_append]; rfl
        · rw [e, List.length_append]; exact .refl _
      · try simp only [go_sem] at c2
        refine sk ?_
        refine rg [0, 3, 8, 9, 10] [] [] (by kernel_rfl) ?_; intro κ ξ hκ hξ
        try simp +decide only [go_sem, Nat.reduceMul, Nat.reduceAdd, Nat.reduceBEq, cond_false, c0, c1, hnw, c2]
        repeat with_reducible refine And.intro (by first | assumption | omega | (simp; done) | (simp; omega) | (intro hg; simp +decide only [go_sem, hg]; done) | (intro hg; simp +decide only [go_sem, hg]; omega)) ?_
        refine hκ _ _ ?_; clear hκ hξ ξ κ
        refine rg [0, 3, 8, 9, 10] [] [] (by kernel_rfl) ?_; intro κ ξ hκ hξ
        try simp +decide only [go_sem, Nat.reduceMul, Nat.reduceAdd, Nat.reduceBEq, cond_false, c0, c1, hnw, c2]
        repeat with_reducible refine And.intro (by first | assumption | omega | (simp; done) | (simp; omega) | (intro hg; simp +decide only [go_sem, hg]; done) | (intro hg; simp +decide only [go_sem, hg]; omega)) ?_
        refine hκ _ _ ?_; clear hκ hξ ξ κ
        have e := heldI_f (l := l) (i := i) (by omega) c2
        refine ⟨(i + 1, o), ⟨⟨by simp only; omega, fun h => by rw [e]; exact ho h⟩, by simp only; omega⟩, EnvLe.of_eq ?_, ?_⟩
        · rw [w64 (n := (i : Int) + 1) (by omega), e]; rfl
        · rw [e]; exact .refl _
    · simp only [go_sem] at c1
      obtain rfl : i = l.length := by omega
      refine ex ?_
      refine sq ?_
      refine sq ?_
      have hnx : nxtI l l.length = nextN l := rfl
      rcases o with _ | ⟨bo, co⟩
      · have hh0 : heldI l l.length = [] := by simpa using ho rfl
        have hh1 : stayL l = [] := (held_stay hv).symm.trans hh0
        have hls : (stayL l).length = 0 := by rw [hh1]; rfl
        refine rg [3, 8, 9, 52] [] [(3, 49)] (by kernel_rfl) ?_; intro κ ξ hκ hξ
        try simp +decide only [go_sem, Nat.reduceMul, Nat.reduceAdd, Nat.reduceBEq, cond_false, c0, c1, apD, apD]
        repeat with_reducible refine And.intro (by first | assumption | omega | (simp; done) | (simp; omega) | (intro hg; simp +decide only [go_sem, hg]; done) | (intro hg; simp +decide only [go_sem, hg]; omega)) ?_
        refine hκ _ _ ?_; clear hκ hξ ξ κ
        refine cd (by rfl) (fun c3 => ?_) (fun c3 => ?_)
        · try simp only [go_sem] at c3
          refine sq ?_
          refine rg [4, 5] [] [] (by kernel_rfl) ?_; intro κ ξ hκ hξ
          try simp +decide only [go_sem, Nat.reduceMul, Nat.reduceAdd, Nat.reduceBEq, cond_false, c0, c1, apD, apD, c3]
          repeat with_reducible refine And.intro (by first | assumption | omega | (simp; done) | (simp; omega) | (intro hg; simp +decide only [go_sem, hg]; done) | (intro hg; simp +decide only [go_sem, hg]; omega)) ?_
          refine hκ _ _ ?_; clear hκ hξ ξ κ
          refine rt ?_
          refine retL ?_
          simp +decide only [go_sem, resD, resV, c0, c1, apD, apD, c3]
          have e : pushR l d = ([], 2) := by
            unfold pushR
            rw [if_neg (fun h => h ⟨hv, hdb⟩), if_pos (by omega)]
          rw [e]
          exact DLe.tup ⟨DLe.nil 6 0 .nil, DLe.refl _, trivial⟩
        · try simp only [go_sem] at c3
          refine sk ?_
          refine sq ?_
          refine rg [4, 5] [] [] (by kernel_rfl) ?_; intro κ ξ hκ hξ
          try simp +decide only [go_sem, Nat.reduceMul, Nat.reduceAdd, Nat.reduceBEq, cond_false, c0, c1, apD, apD, c3]
          repeat with_reducible refine And.intro (by first | assumption | omega | (simp; done) | (simp; omega) | (intro hg; simp +decide only [go_sem, hg]; done) | (intro hg; simp +decide only [go_sem, hg]; omega)) ?_
          first
          | (refine napp_grow0 (o := some (bo, co)) (by first | exact ho | (intro h; cases h) | (intro _; rfl)) (by first | rfl | (simp; done) | (simp [*]; done) | omega) rfl rfl (by simp +decide only [go_sem, Option.isSome_some]) tf86 tf87 tf179 (by (refine ⟨⟨rfl, by decide, by decide⟩, by simp +decide only [go_sem], by simp, ?_⟩; simp [capB] <;> omega)) ?_; intro b58 c58)
          | (refine napp_grow0 (o := none) (by first | exact ho | (intro h; cases h) | (intro _; rfl)) (by first | rfl | (simp; done) | (simp [*]; done) | omega) rfl rfl (by simp +decide only [go_sem, Option.isSome_some]) tf86 tf87 tf179 (by (refine ⟨⟨rfl, by decide, by decide⟩, by simp +decide only [go_sem], by simp, ?_⟩; simp [capB] <;> omega)) ?_; intro b58 c58)
          try simp +decide only [go_sem, Nat.reduceMul, Nat.reduceAdd, Nat.reduceBEq, cond_false, c0, c1, apD, apD, c3]
          repeat with_reducible refine And.intro (by first | assumption | omega | (simp; done) | (simp; omega) | (intro hg; simp +decide only [go_sem, hg]; done) | (intro hg; simp +decide only [go_sem, hg]; omega)) ?_
          refine hκ _ _ ?_; clear hκ hξ ξ κ
          refine rt ?_
          refine retL ?_
          simp +decide only [go_sem, resD, resV, c0, c1, apD, apD, c3]
          have e : pushR l d = (stayL l ++ [⟨nextN l, 0, d⟩], 0) := by
            unfold pushR
            rw [if_neg (fun h => h ⟨hv, hdb⟩), if_neg (by omega)]
          rw [e, hh1, hh0]
          exact DLe.tup ⟨DLe.tok _ _ _, DLe.refl _, trivial⟩
      · have hls : (stayL l).length = (heldI l l.length).length := by rw [held_stay hv]
        refine rg [3, 8, 9, 52] [] [(3, 49)] (by kernel_rfl) ?_; intro κ ξ hκ hξ
        try simp +decide only [go_sem, Nat.reduceMul, Nat.reduceAdd, Nat.reduceBEq, cond_false, c0, c1, apD, apD]
        repeat with_reducible refine And.intro (by first | assumption | omega | (simp; done) | (simp; omega) | (intro hg; simp +decide only [go_sem, hg]; done) | (intro hg; simp +decide only [go_sem, hg]; omega)) ?_
        refine hκ _ _ ?_; clear hκ hξ ξ κ
        refine cd (by rfl) (fun c4 => ?_) (fun c4 => ?_)
        · try simp only [go_sem] at c4
          refine sq ?_
          refine rg [4, 5] [] [] (by kernel_rfl) ?_; intro κ ξ hκ hξ
          try simp +decide only [go_sem, Nat.reduceMul, Nat.reduceAdd, Nat.reduceBEq, cond_false, c0, c1, apD, apD, c4]
          repeat with_reducible refine And.intro (by first | assumption | omega | (simp; done) | (simp; omega) | (intro hg; simp +decide only [go_sem, hg]; done) | (intro hg; simp +decide only [go_sem, hg]; omega)) ?_
          refine hκ _ _ ?_; clear hκ hξ ξ κ
          refine rt ?_
          refine retL ?_
          simp +decide only [go_sem, resD, resV, c0, c1, apD, apD, c4]
          have e : pushR l d = ([], 2) := by
            unfold pushR
            rw [if_neg (fun h => h ⟨hv, hdb⟩), if_pos (by omega)]
          rw [e]
          exact DLe.tup ⟨DLe.nil 6 0 .nil, DLe.refl _, trivial⟩
        · try simp only [go_sem] at c4
          refine sk ?_
          refine sq ?_
          refine rg [4, 5] [] [] (by kernel_rfl) ?_; intro κ ξ hκ hξ
          try simp +decide only [go_sem, Nat.reduceMul, Nat.reduceAdd, Nat.reduceBEq, cond_false, c0, c1, apD, apD, c4]
          repeat with_reducible refine And.intro (by first | assumption | omega | (simp; done) | (simp; omega) | (intro hg; simp +decide only [go_sem, hg]; done) | (intro hg; simp +decide only [go_sem, hg]; omega)) ?_
          first
          | (refine napp_grow0 (o := some (bo, co)) (by first | exact ho | (intro h; cases h) | (intro _; rfl)) (by first | rfl | (simp; done) | (simp [*]; done) | omega) rfl rfl (by simp +decide only [go_sem, Option.isSome_some]) tf86 tf87 tf179 (by (refine ⟨⟨rfl, by decide, by decide⟩, by simp +decide only [go_sem], by simp, ?_⟩; simp [capB] <;> omega)) ?_; intro b58 c58)
          | (refine napp_grow0 (o := none) (by first | exact ho | (intro h; cases h) | (intro _; rfl)) (by first | rfl | (simp; done) | (simp [*]; done) | omega) rfl rfl (by simp +decide only [go_sem, Option.isSome_some]) tf86 tf87 tf179 (by (refine ⟨⟨rfl, by decide, by decide⟩, by simp +decide only [go_sem], by simp, ?_⟩; simp [capB] <;> omega)) ?_; intro b58 c58)
          try simp +decide only [go_sem, Nat.reduceMul, Nat.reduceAdd, Nat.reduceBEq, cond_false, c0, c1, apD, apD, c4]
          repeat with_reducible refine And.intro (by first | assumption | omega | (simp; done) | (simp; omega) | (intro hg; simp +decide only [go_sem, hg]; done) | (intro hg; simp +decide only [go_sem, hg]; omega)) ?_
          refine hκ _ _ ?_; clear hκ hξ ξ κ
          refine rt ?_
          refine retL ?_
          simp +decide only [go_sem, resD, resV, c0, c1, apD, apD, c4]
          have e : pushR l d = (stayL l ++ [⟨nextN l, 0, d⟩], 0) := by
            unfold pushR
            rw [if_neg (fun h => h ⟨hv, hdb⟩), if_neg (by omega)]
          rw [e, ← held_stay hv]
          simp only [List.map_append]
          exact DLe.tup ⟨DLe.tok _ _ _, DLe.refl _, trivial⟩

end Go.Proofs.YtjjkgeeafjagkaaGreat
/- The walk of the reference's Let of versions. Printed by a tool of our own. -/
namespace Go.Proofs.YtjjkgeeafjagkaaGreat
open Go Go.RowKit
set_option linter.unusedSimpArgs false
set_option linter.unusedVariables false
set_option maxHeartbeats 4000000
set_option maxRecDepth 100000
theorem napp_growQ {P : Program} {ts : Array TypeId} {T U V : TypeId} {g : Bool} {sz by_ n : Nat} {z : List D} {rows new : List (List D)} {o : Option (Nat × Nat)} {ρ : Store} {tk : Tok} {K : D → Store → Prop}
    (hok : apOK rows o) (hn : rows.length = n) (hfr : apFr o ρ) (hT : ts[0]? = some T) (hV : ts[1]? = some V) (hV' : (sle P V).isSome = true) (hs : sle P T = some (U, g, sz)) (hy : eby P T = some by_) (hz : zc P U = some z)
    (hside : (z.length = sz ∧ 0 < sz ∧ 0 < by_) ∧ new.all (·.all D.isCell) = true ∧ new ≠ [] ∧ (n + new.length) * by_ ≤ capB)
    (hK : ∀ b c, b ∉ ρ.keys → K (apD sz (rows ++ new) (some (b, c))) (apS sz (n + new.length) (some (b, c)) ++ ρ)) :
    napp P (apS sz n o ++ ρ) ts (apD sz rows o) (.sl sz new tk) K := by
  subst hn
  exact napp_grow hok hfr hT hV hV' hs hy hz hside hK
theorem apS_sub {sz n : Nat} {o : Option (Nat × Nat)} {ρ : Store} : (apS sz n o).Sublist (ρ ++ apS sz n o) := List.sublist_append_right _ _
theorem apS_get {sz n b : Nat} {o : Option (Nat × Nat)} (h : ¬ b ∈ (apS sz n o).keys) (x : Box) : Store.get (apS sz n o ++ [(b, x)]) b = some x := by
  rcases o with _ | ⟨b2, c2⟩
  · simp [apS, Store.get]
  · have : ¬ b = b2 := by intro e; exact h (by simp [apS, Store.keys, e])
    simp [apS, Store.get, this, Ne.symm this]
theorem apFr_of {sz n b : Nat} {o : Option (Nat × Nat)} {x : Box} (h : ¬ b ∈ (apS sz n o).keys) : apFr o [(b, x)] := by
  rintro b2 c2 rfl h2
  have : b2 = b := by simpa [Store.keys] using h2
  subst this
  exact h (by simp [apS, Store.keys])
attribute [local go_sem] List.length_map rowAt_n nrow rowAt_t trow rowAt_i irow
attribute [local go_sem] rowAt_e rowAt_tm rowAt_dc rowAt_ru tmrow dcrow rurow
attribute [local go_sem] rowAt_br rowAt_s rowAt_fo rowAt_ve rowAt_g rowAt_k grow krow srow brrow forow dorow verow
theorem rlet_w (l : List Ve) (t : Tok) (n : Int) : PCall Tryz.prog (.func 19) [.sl 6 (l.map verow) t, .int .i64 n] (.tup [.sl 6 ((letR l n).1.map verow) .no, .int .i64 (letR l n).2]) := by
  refine PCall.ok fun hok => ?_
  simp only [okAll, D.ok, okRows, and_true, true_and, lim_eq, inR_i64', inR_i32', inR_u8', inR_u16', inR_u64'] at hok
  obtain ⟨⟨hl, hr⟩, hx⟩ := hok; rw [List.length_map] at hl
  refine PCall.le ?_
  refine fn_ Tryz.func19 (by rfl) (by rfl) (rs := [.tmp 4, .tmp 5]) (by rfl) (by simp [Tryz.f19]) ?_
  refine sq ?_
  refine rg [0, 1] [] [] (by kernel_rfl) ?_; intro κ ξ hκ hξ
  try simp +decide only [go_sem, Nat.reduceMul, Nat.reduceAdd, Nat.reduceBEq, cond_false]
  repeat with_reducible refine And.intro (by first | assumption | omega | (simp; done) | (simp; omega) | (intro hg; simp +decide only [go_sem, hg]; done) | (intro hg; simp +decide only [go_sem, hg]; omega)) ?_
  refine hκ _ _ ?_; clear hκ hξ ξ κ
  refine sq ?_
  refine rg [0, 1, 6] [] [] (by kernel_rfl) ?_; intro κ ξ hκ hξ
  try simp +decide only [go_sem, Nat.reduceMul, Nat.reduceAdd, Nat.reduceBEq, cond_false]
  repeat with_reducible refine And.intro (by first | assumption | omega | (simp; done) | (simp; omega) | (intro hg; simp +decide only [go_sem, hg]; done) | (intro hg; simp +decide only [go_sem, hg]; omega)) ?_
  refine callF (rver_w _ _) ?_
  try simp +decide only [go_sem, Nat.reduceMul, Nat.reduceAdd, Nat.reduceBEq, cond_false]
  repeat with_reducible refine And.intro (by first | assumption | omega | (simp; done) | (simp; omega) | (intro hg; simp +decide only [go_sem, hg]; done) | (intro hg; simp +decide only [go_sem, hg]; omega)) ?_
  refine hκ _ _ ?_; clear hκ hξ ξ κ
  refine sq ?_
  refine sq ?_
  refine rg [0, 1, 14] [] [] (by kernel_rfl) ?_; intro κ ξ hκ hξ
  try simp +decide only [go_sem, Nat.reduceMul, Nat.reduceAdd, Nat.reduceBEq, cond_false]
  repeat with_reducible refine And.intro (by first | assumption | omega | (simp; done) | (simp; omega) | (intro hg; simp +decide only [go_sem, hg]; done) | (intro hg; simp +decide only [go_sem, hg]; omega)) ?_
  refine hκ _ _ ?_; clear hκ hξ ξ κ
  refine cd (by rfl) (fun c0 => ?_) (fun c0 => ?_)
  · simp only [go_sem] at c0
    refine sq ?_
    refine rg [4, 5] [] [] (by kernel_rfl) ?_; intro κ ξ hκ hξ
    try simp +decide only [go_sem, Nat.reduceMul, Nat.reduceAdd, Nat.reduceBEq, cond_false, c0]
    repeat with_reducible refine And.intro (by first | assumption | omega | (simp; done) | (simp; omega) | (intro hg; simp +decide only [go_sem, hg]; done) | (intro hg; simp +decide only [go_sem, hg]; omega)) ?_
    refine hκ _ _ ?_; clear hκ hξ ξ κ
    refine rt ?_
    refine retL ?_
    simp +decide only [go_sem, resD, resV, c0]
    have e : letR l n = ([], 1) := by
      unfold letR
      rw [if_pos c0]
    rw [e]
    exact DLe.tup ⟨DLe.nil 6 0 .nil, DLe.refl _, trivial⟩
  · simp only [go_sem] at c0
    have hv := c0
    have hl5 := (ver_true.1 hv).1
    refine sk ?_
    refine sq ?_
    refine rg [0, 7] [] [] (by kernel_rfl) ?_; intro κ ξ hκ hξ
    try simp +decide only [go_sem, Nat.reduceMul, Nat.reduceAdd, Nat.reduceBEq, cond_false, c0]
    repeat with_reducible refine And.intro (by first | assumption | omega | (simp; done) | (simp; omega) | (intro hg; simp +decide only [go_sem, hg]; done) | (intro hg; simp +decide only [go_sem, hg]; omega)) ?_
    refine callF (vix_w _ _ _) ?_
    try simp +decide only [go_sem, Nat.reduceMul, Nat.reduceAdd, Nat.reduceBEq, cond_false, c0]
    repeat with_reducible refine And.intro (by first | assumption | omega | (simp; done) | (simp; omega) | (intro hg; simp +decide only [go_sem, hg]; done) | (intro hg; simp +decide only [go_sem, hg]; omega)) ?_
    refine hκ _ _ ?_; clear hκ hξ ξ κ
    refine sq ?_
    refine sq ?_
    refine rg [0, 7, 19] [] [] (by kernel_rfl) ?_; intro κ ξ hκ hξ
    try simp +decide only [go_sem, Nat.reduceMul, Nat.reduceAdd, Nat.reduceBEq, cond_false, c0]
    repeat with_reducible refine And.intro (by first | assumption | omega | (simp; done) | (simp; omega) | (intro hg; simp +decide only [go_sem, hg]; done) | (intro hg; simp +decide only [go_sem, hg]; omega)) ?_
    refine hκ _ _ ?_; clear hκ hξ ξ κ
    refine cd (by rfl) (fun c1 => ?_) (fun c1 => ?_)
    · simp only [go_sem] at c1
      refine sq ?_
      refine rg [4, 5] [] [] (by kernel_rfl) ?_; intro κ ξ hκ hξ
      try simp +decide only [go_sem, Nat.reduceMul, Nat.reduceAdd, Nat.reduceBEq, cond_false, c0, c1]
      repeat with_reducible refine And.intro (by first | assumption | omega | (simp; done) | (simp; omega) | (intro hg; simp +decide only [go_sem, hg]; done) | (intro hg; simp +decide only [go_sem, hg]; omega)) ?_
      refine hκ _ _ ?_; clear hκ hξ ξ κ
      refine rt ?_
      refine retL ?_
      simp +decide only [go_sem, resD, resV, c0, c1]
      have e : letR l n = ([], 4) := by
        unfold letR
        rw [hv, if_neg (by simp), if_pos (by omega)]
      rw [e]
      exact DLe.tup ⟨DLe.nil 6 0 .nil, DLe.refl _, trivial⟩
    · simp only [go_sem] at c1
      obtain ⟨k, hk, hkN⟩ : ∃ k : Nat, vix l n = (k : Int) ∧ k < l.length := by
        rcases vix_cases l n with ⟨i, h1, _, _, h2⟩ | ⟨_, h2⟩
        · exact ⟨i, h2, h1⟩
        · omega
      have hk0 : (0 : Int) ≤ (k : Int) := by omega
      have hkn : ¬ (k : Int) < 0 := by omega
      have hkl : (k : Int) < l.length := by omega
      have hvk := vok_true.1 ((ver_true.1 hv).2 k hkN)
      refine sk ?_
      refine sq ?_
      refine sq ?_
      refine rg [0, 7, 25] [] [] (by kernel_rfl) ?_; intro κ ξ hκ hξ
      try simp +decide only [go_sem, Nat.reduceMul, Nat.reduceAdd, Nat.reduceBEq, cond_false, c0, c1, hk, hk0, hkn, hkl, if_true]
      repeat with_reducible refine And.intro (by first | assumption | omega | (simp; done) | (simp; omega) | (intro hg; simp +decide only [go_sem, hg]; done) | (intro hg; simp +decide only [go_sem, hg]; omega)) ?_
      refine hκ _ _ ?_; clear hκ hξ ξ κ
      refine cd (by rfl) (fun c2 => ?_) (fun c2 => ?_)
      · try simp only [go_sem] at c2
        refine sq ?_
        refine rg [4, 5] [] [] (by kernel_rfl) ?_; intro κ ξ hκ hξ
        try simp +decide only [go_sem, Nat.reduceMul, Nat.reduceAdd, Nat.reduceBEq, cond_false, c0, c1, hk, hk0, hkn, hkl, if_true, c2]
        repeat with_reducible refine And.intro (by first | assumption | omega | (simp; done) | (simp; omega) | (intro hg; simp +decide only [go_sem, hg]; done) | (intro hg; simp +decide only [go_sem, hg]; omega)) ?_
        refine hκ _ _ ?_; clear hκ hξ ξ κ
        refine rt ?_
        refine retL ?_
        simp +decide only [go_sem, resD, resV, c0, c1, hk, hk0, hkn, hkl, if_true, c2]
        have e : letR l n = ([], 6) := by
          unfold letR
          rw [hv, if_neg (by simp), hk, if_neg (by omega), Int.toNat_natCast, if_pos c2]
        rw [e]
        exact DLe.tup ⟨DLe.nil 6 0 .nil, DLe.refl _, trivial⟩
      · try simp only [go_sem] at c2
        refine sk ?_
        refine sq ?_
        refine rg [0, 7, 8] [] [] (by kernel_rfl) ?_; intro κ ξ hκ hξ
        try simp +decide only [go_sem, Nat.reduceMul, Nat.reduceAdd, Nat.reduceBEq, cond_false, c0, c1, hk, hk0, hkn, hkl, if_true, c2]
        repeat with_reducible refine And.intro (by first | assumption | omega | (simp; done) | (simp; omega) | (intro hg; simp +decide only [go_sem, hg]; done) | (intro hg; simp +decide only [go_sem, hg]; omega)) ?_
        refine hκ _ _ ?_; clear hκ hξ ξ κ
        refine sq ?_
        refine sq ?_
        refine rg [0, 7, 8, 9] [] [] (by kernel_rfl) ?_; intro κ ξ hκ hξ
        try simp +decide only [go_sem, Nat.reduceMul, Nat.reduceAdd, Nat.reduceBEq, cond_false, c0, c1, hk, hk0, hkn, hkl, if_true, c2]
        repeat with_reducible refine And.intro (by first | assumption | omega | (simp; done) | (simp; omega) | (intro hg; simp +decide only [go_sem, hg]; done) | (intro hg; simp +decide only [go_sem, hg]; omega)) ?_
        refine hκ _ _ ?_; clear hκ hξ ξ κ
        refine bl ?_
        have hlw : IntKind.wrap .i64 ((l.length : Int) - 1) = (l.length : Int) - 1 := w64 (by omega)
        refine lp (α := Nat × Option (Nat × Nat)) (fun y => mk [(0, .sl 6 (l.map verow) t), (7, .int .i64 k), (8, apD 6 ((lftI l k y.1).map verow) y.2), (9, .int .i64 y.1)]) (fun y => apS 6 (lftI l k y.1).length y.2) (fun y => y.1 ≤ l.length ∧ apOK ((lftI l k y.1).map verow) y.2) (fun y => l.length - y.1) (0, none) ⟨⟨by omega, fun _ => rfl⟩, EnvLe.of_eq rfl, .refl _⟩ ?_
        rintro ⟨i, o⟩ ⟨hi, ho⟩
        simp only at hi ho
        have hfl := lftI_len l k i
        refine sq ?_
        refine sq ?_
        refine rg [0, 7, 8, 9, 29] [] [] (by kernel_rfl) ?_; intro κ ξ hκ hξ
        try simp +decide only [go_sem, Nat.reduceMul, Nat.reduceAdd, Nat.reduceBEq, cond_false, c0, c1, hk, hk0, hkn, hkl, if_true, c2, hlw]
        repeat with_reducible refine And.intro (by first | assumption | omega | (simp; done) | (simp; omega) | (intro hg; simp +decide only [go_sem, hg]; done) | (intro hg; simp +decide only [go_sem, hg]; omega)) ?_
        refine hκ _ _ ?_; clear hκ hξ ξ κ
        refine cd (by rfl) (fun c3 => ?_) (fun c3 => ?_)
        · simp only [go_sem] at c3
          have hvi := (vok_true.1 ((ver_true.1 hv).2 i (by omega))).1
          refine sk ?_
          refine sq ?_
          refine bl ?_
          refine sq ?_
          refine rg [0, 7, 8, 9, 10] [] [] (by kernel_rfl) ?_; intro κ ξ hκ hξ
          try simp +decide only [go_sem, Nat.reduceMul, Nat.reduceAdd, Nat.reduceBEq, cond_false, c0, c1, hk, hk0, hkn, hkl, if_true, c2, hlw, c3]
          repeat with_reducible refine And.intro (by first | assumption | omega | (simp; done) | (simp; omega) | (intro hg; simp +decide only [go_sem, hg]; done) | (intro hg; simp +decide only [go_sem, hg]; omega)) ?_
          intro b10 hb10
          try simp +decide only [go_sem, Nat.reduceMul, Nat.reduceAdd, Nat.reduceBEq, cond_false, c0, c1, hk, hk0, hkn, hkl, if_true, c2, hlw, c3, hb10]
          repeat with_reducible refine And.intro (by first | assumption | omega | (simp; done) | (simp; omega) | (intro hg; simp +decide only [go_sem, hg]; done) | (intro hg; simp +decide only [go_sem, hg]; omega)) ?_
          refine hκ _ _ ?_; clear hκ hξ ξ κ
          refine sq ?_
          refine sq ?_
          refine rg [0, 7, 8, 9, 10, 38] [] [] (by kernel_rfl) ?_; intro κ ξ hκ hξ
          try simp +decide only [go_sem, Nat.reduceMul, Nat.reduceAdd, Nat.reduceBEq, cond_false, c0, c1, hk, hk0, hkn, hkl, if_true, c2, hlw, c3, hb10]
          repeat with_reducible refine And.intro (by first | assumption | omega | (simp; done) | (simp; omega) | (intro hg; simp +decide only [go_sem, hg]; done) | (intro hg; simp +decide only [go_sem, hg]; omega)) ?_
          refine hκ _ _ ?_; clear hκ hξ ξ κ
          refine cd (by rfl) (fun c4 => ?_) (fun c4 => ?_)
          · simp only [go_sem] at c4
            obtain rfl : i = k := by omega
            have hwd : IntKind.wrap .i64 ((veat l i).holds - 1) = (held (veat l i) (-1)).holds := by rw [w64 (by omega)]; rfl
            have hde : decV l i i = held (veat l i) (-1) := by unfold decV; rw [if_pos rfl]
            have hdh : (decV l i i).holds = (held (veat l i) (-1)).holds := by rw [hde]
            refine rg [0, 7, 8, 9, 10] [] [] (by kernel_rfl) ?_; intro κ ξ hκ hξ
            try simp +decide only [go_sem, Nat.reduceMul, Nat.reduceAdd, Nat.reduceBEq, cond_false, c0, c1, hk, hk0, hkn, hkl, if_true, c2, hlw, c3, hb10, c4, hwd]
            repeat with_reducible refine And.intro (by first | assumption | omega | (simp; done) | (simp; omega) | (intro hg; simp +decide only [go_sem, hg]; done) | (intro hg; simp +decide only [go_sem, hg]; omega)) ?_
            refine hκ _ _ ?_; clear hκ hξ ξ κ
            refine sq ?_
            refine rg [0, 7, 8, 9, 10, 52] [] [(3, 46)] (by kernel_rfl) ?_; intro κ ξ hκ hξ
            try simp +decide only [go_sem, Nat.reduceMul, Nat.reduceAdd, Nat.reduceBEq, cond_false, c0, c1, hk, hk0, hkn, hkl, if_true, c2, hlw, c3, hb10, c4, hwd]
            repeat with_reducible refine And.intro (by first | assumption | omega | (simp; done) | (simp; omega) | (intro hg; simp +decide only [go_sem, hg]; done) | (intro hg; simp +decide only [go_sem, hg]; omega)) ?_
            refine hκ _ _ ?_; clear hκ hξ ξ κ
            refine cd (by rfl) (fun c5 => ?_) (fun c5 => ?_)
            · simp only [go_sem] at c5
              refine weakP (mk [(0, .sl 6 (l.map verow) t), (7, .int .i64 i), (8, apD 6 ((lftI l i i).map verow) o), (9, .int .i64 i), (10, .ptr b10 0)]) (EnvLe.of_l ⟨rfl, rfl, rfl, rfl, rfl, trivial⟩) (σ' := apS 6 (lftI l i i).length o ++ [(b10, .cells (verow (held (veat l i) (-1))))]) (List.perm_append_comm (l₁ := [_])) ?_
              have hgb := fun x => apS_get hb10 x
              refine rg [0, 7, 8, 9] [] [] (by kernel_rfl) ?_; intro κ ξ hκ hξ
              try simp +decide only [go_sem, Nat.reduceMul, Nat.reduceAdd, Nat.reduceBEq, cond_false, c0, c1, hk, hk0, hkn, hkl, if_true, c2, hlw, c3, hb10, c4, hwd, c5, hgb]
              repeat with_reducible refine And.intro (by first | assumption | omega | (simp; done) | (simp; omega) | (intro hg; simp +decide only [go_sem, hg]; done) | (intro hg; simp +decide only [go_sem, hg]; omega)) ?_
              refine napp_growQ (o := o) (ρ := [(b10, _)]) ho (by rw [List.length_map]) (apFr_of hb10) rfl rfl (by simp +decide only [go_sem, Option.isSome_some]) tf86 tf87 tf179 (by (refine ⟨⟨rfl, by decide, by decide⟩, by simp +decide only [go_sem], by simp, ?_⟩; simp [capB]; omega)) ?_; intro b56 c56 hb56
              try simp +decide only [go_sem, Nat.reduceMul, Nat.reduceAdd, Nat.reduceBEq, cond_false, c0, c1, hk, hk0, hkn, hkl, if_true, c2, hlw, c3, hb10, c4, hwd, c5, hgb]
              repeat with_reducible refine And.intro (by first | assumption | omega | (simp; done) | (simp; omega) | (intro hg; simp +decide only [go_sem, hg]; done) | (intro hg; simp +decide only [go_sem, hg]; omega)) ?_
              refine hκ _ _ ?_; clear hκ hξ ξ κ
              refine rg [0, 7, 8, 9] [] [] (by kernel_rfl) ?_; intro κ ξ hκ hξ
              try simp +decide only [go_sem, Nat.reduceMul, Nat.reduceAdd, Nat.reduceBEq, cond_false, c0, c1, hk, hk0, hkn, hkl, if_true, c2, hlw, c3, hb10, c4, hwd, c5, hgb]
              repeat with_reducible refine And.intro (by first | assumption | omega | (simp; done) | (simp; omega) | (intro hg; simp +decide only [go_sem, hg]; done) | (intro hg; simp +decide only [go_sem, hg]; omega)) ?_
              refine hκ _ _ ?_; clear hκ hξ ξ κ
              have e : lftI l i (i + 1) = lftI l i i ++ [decV l i i] := by rw [lftI, if_pos (by omega)]
              refine ⟨(i + 1, some (b56, c56)), ⟨⟨by simp only; omega, fun h => by cases h⟩, by simp only; omega⟩, EnvLe.of_eq ?_, ?_⟩
              · rw [w64 (n := (i : Int) + 1) (by omega), e, hde, List.map_append]; rfl
              · rw [e, List.length_append]; exact List.sublist_append_left _ _
            · simp only [go_sem] at c5
              refine sk ?_
              refine rg [0, 7, 8, 9] [] [] (by kernel_rfl) ?_; intro κ ξ hκ hξ
              try simp +decide only [go_sem, Nat.reduceMul, Nat.reduceAdd, Nat.reduceBEq, cond_false, c0, c1, hk, hk0, hkn, hkl, if_true, c2, hlw, c3, hb10, c4, hwd, c5]
              repeat with_reducible refine And.intro (by first | assumption | omega | (simp; done) | (simp; omega) | (intro hg; simp +decide only [go_sem, hg]; done) | (intro hg; simp +decide only [go_sem, hg]; omega)) ?_
              refine hκ _ _ ?_; clear hκ hξ ξ κ
              have e : lftI l i (i + 1) = lftI l i i := by rw [lftI, if_neg (by omega), List.append_nil]
              refine ⟨(i + 1, o), ⟨⟨by simp only; omega, fun h => by rw [e]; exact ho h⟩, by simp only; omega⟩, EnvLe.of_eq ?_, ?_⟩
              · rw [w64 (n := (i : Int) + 1) (by omega), e]; rfl
              · rw [e]; exact (List.Sublist.refl _).cons _
          · simp only [go_sem] at c4
            have hde : decV l k i = veat l i := by unfold decV; rw [if_neg (by omega)]
            have hdh : (decV l k i).holds = (veat l i).holds := by rw [hde]
            refine sk ?_
            refine sq ?_
            refine rg [0, 7, 8, 9, 10, 52] [] [(3, 46)] (by kernel_rfl) ?_; intro κ ξ hκ hξ
            try simp +decide only [go_sem, Nat.reduceMul, Nat.reduceAdd, Nat.reduceBEq, cond_false, c0, c1, hk, hk0, hkn, hkl, if_true, c2, hlw, c3, hb10, c4]
            repeat with_reducible refine And.intro (by first | assumption | omega | (simp; done) | (simp; omega) | (intro hg; simp +decide only [go_sem, hg]; done) | (intro hg; simp +decide only [go_sem, hg]; omega)) ?_
            refine hκ _ _ ?_; clear hκ hξ ξ κ
            refine cd (by rfl) (fun c6 => ?_) (fun c6 => ?_)
            · simp only [go_sem] at c6
              refine weakP (mk [(0, .sl 6 (l.map verow) t), (7, .int .i64 k), (8, apD 6 ((lftI l k i).map verow) o), (9, .int .i64 i), (10, .ptr b10 0)]) (EnvLe.of_l ⟨rfl, rfl, rfl, rfl, rfl, trivial⟩) (σ' := apS 6 (lftI l k i).length o ++ [(b10, .cells (verow (veat l i)))]) (List.perm_append_comm (l₁ := [_])) ?_
              have hgb := fun x => apS_get hb10 x
              refine rg [0, 7, 8, 9] [] [] (by kernel_rfl) ?_; intro κ ξ hκ hξ
              try simp +decide only [go_sem, Nat.reduceMul, Nat.reduceAdd, Nat.reduceBEq, cond_false, c0, c1, hk, hk0, hkn, hkl, if_true, c2, hlw, c3, hb10, c4, c6, hgb]
              repeat with_reducible refine And.intro (by first | assumption | omega | (simp; done) | (simp; omega) | (intro hg; simp +decide only [go_sem, hg]; done) | (intro hg; simp +decide only [go_sem, hg]; omega)) ?_
              refine napp_growQ (o := o) (ρ := [(b10, _)]) ho (by rw [List.length_map]) (apFr_of hb10) rfl rfl (by simp +decide only [go_sem, Option.isSome_some]) tf86 tf87 tf179 (by (refine ⟨⟨rfl, by decide, by decide⟩, by simp +decide only [go_sem], by simp, ?_⟩; simp [capB]; omega)) ?_; intro b56 c56 hb56
              try simp +decide only [go_sem, Nat.reduceMul, Nat.reduceAdd, Nat.reduceBEq, cond_false, c0, c1, hk, hk0, hkn, hkl, if_true, c2, hlw, c3, hb10, c4, c6, hgb]
              repeat with_reducible refine And.intro (by first | assumption | omega | (simp; done) | (simp; omega) | (intro hg; simp +decide only [go_sem, hg]; done) | (intro hg; simp +decide only [go_sem, hg]; omega)) ?_
              refine hκ _ _ ?_; clear hκ hξ ξ κ
              refine rg [0, 7, 8, 9] [] [] (by kernel_rfl) ?_; intro κ ξ hκ hξ
              try simp +decide only [go_sem, Nat.reduceMul, Nat.reduceAdd, Nat.reduceBEq, cond_false, c0, c1, hk, hk0, hkn, hkl, if_true, c2, hlw, c3, hb10, c4, c6, hgb]
              repeat with_reducible refine And.intro (by first | assumption | omega | (simp; done) | (simp; omega) | (intro hg; simp +decide only [go_sem, hg]; done) | (intro hg; simp +decide only [go_sem, hg]; omega)) ?_
              refine hκ _ _ ?_; clear hκ hξ ξ κ
              have e : lftI l k (i + 1) = lftI l k i ++ [decV l k i] := by rw [lftI, if_pos (by omega)]
              refine ⟨(i + 1, some (b56, c56)), ⟨⟨by simp only; omega, fun h => by cases h⟩, by simp only; omega⟩, EnvLe.of_eq ?_, ?_⟩
              · rw [w64 (n := (i : Int) + 1) (by omega), e, hde, List.map_append]; rfl
              · rw [e, List.length_append]; exact List.sublist_append_left _ _
            · simp only [go_sem] at c6
              refine sk ?_
              refine rg [0, 7, 8, 9] [] [] (by kernel_rfl) ?_; intro κ ξ hκ hξ
              try simp +decide only [go_sem, Nat.reduceMul, Nat.reduceAdd, Nat.reduceBEq, cond_false, c0, c1, hk, hk0, hkn, hkl, if_true, c2, hlw, c3, hb10, c4, c6]
              repeat with_reducible refine And.intro (by first | assumption | omega | (simp; done) | (simp; omega) | (intro hg; simp +decide only [go_sem, hg]; done) | (intro hg; simp +decide only [go_sem, hg]; omega)) ?_
              refine hκ _ _ ?_; clear hκ hξ ξ κ
              have e : lftI l k (i + 1) = lftI l k i := by rw [lftI, if_neg (by omega), List.append_nil]
              refine ⟨(i + 1, o), ⟨⟨by simp only; omega, fun h => by rw [e]; exact ho h⟩, by simp only; omega⟩, EnvLe.of_eq ?_, ?_⟩
              · rw [w64 (n := (i : Int) + 1) (by omega), e]; rfl
              · rw [e]; exact (List.Sublist.refl _).cons _
        · simp only [go_sem] at c3
          obtain rfl : i = l.length := by omega
          refine ex ?_
          refine sq ?_
          refine rg [4, 5] [] [] (by kernel_rfl) ?_; intro κ ξ hκ hξ
          try simp +decide only [go_sem, Nat.reduceMul, Nat.reduceAdd, Nat.reduceBEq, cond_false, c0, c1, hk, hk0, hkn, hkl, if_true, c2, hlw, c3]
          repeat with_reducible refine And.intro (by first | assumption | omega | (simp; done) | (simp; omega) | (intro hg; simp +decide only [go_sem, hg]; done) | (intro hg; simp +decide only [go_sem, hg]; omega)) ?_
          refine hκ _ _ ?_; clear hκ hξ ξ κ
          refine rt ?_
          refine retL ?_
          simp +decide only [go_sem, resD, resV, c0, c1, hk, hk0, hkn, hkl, if_true, c2, hlw, c3]
          have e : letR l n = (chg l k (-1), 0) := by
            unfold letR
            rw [hv, if_neg (by simp), hk, if_neg (by omega), Int.toNat_natCast, if_neg c2]
          rw [e]
          rw [let_chg hv hkN c2] at ho ⊢
          exact DLe.tup ⟨apD_le 6 ho, DLe.refl _, trivial⟩

end Go.Proofs.YtjjkgeeafjagkaaGreat
/- The walk of the reference's Hold of versions. Printed by a tool of our own. -/
namespace Go.Proofs.YtjjkgeeafjagkaaGreat
open Go Go.RowKit
set_option linter.unusedSimpArgs false
set_option linter.unusedVariables false
set_option maxHeartbeats 4000000
set_option maxRecDepth 100000
attribute [local go_sem] List.length_map rowAt_n nrow rowAt_t trow rowAt_i irow
attribute [local go_sem] rowAt_e rowAt_tm rowAt_dc rowAt_ru tmrow dcrow rurow
attribute [local go_sem] rowAt_br rowAt_s rowAt_fo rowAt_ve rowAt_g rowAt_k grow krow srow brrow forow dorow verow
theorem rhold_w (l : List Ve) (t : Tok) : PCall Tryz.prog (.func 17) [.sl 6 (l.map verow) t] (.tup [.sl 6 ((holdR l).1.map verow) .no, .int .i64 (holdR l).2.1, .int .i64 (holdR l).2.2]) := by
  refine PCall.ok fun hok => ?_
  simp only [okAll, D.ok, okRows, and_true, true_and, lim_eq, inR_i64', inR_i32', inR_u8', inR_u16', inR_u64'] at hok
  obtain ⟨hl, hr⟩ := hok; rw [List.length_map] at hl
  refine PCall.le ?_
  refine fn_ Tryz.func17 (by rfl) (by rfl) (rs := [.tmp 2, .tmp 3, .tmp 4]) (by rfl) (by simp [Tryz.f17]) ?_
  refine sq ?_
  refine rg [0] [] [] (by kernel_rfl) ?_; intro κ ξ hκ hξ
  try simp +decide only [go_sem, Nat.reduceMul, Nat.reduceAdd, Nat.reduceBEq, cond_false]
  repeat with_reducible refine And.intro (by first | assumption | omega | (simp; done) | (simp; omega) | (intro hg; simp +decide only [go_sem, hg]; done) | (intro hg; simp +decide only [go_sem, hg]; omega)) ?_
  refine hκ _ _ ?_; clear hκ hξ ξ κ
  refine sq ?_
  refine rg [0, 5] [] [] (by kernel_rfl) ?_; intro κ ξ hκ hξ
  try simp +decide only [go_sem, Nat.reduceMul, Nat.reduceAdd, Nat.reduceBEq, cond_false]
  repeat with_reducible refine And.intro (by first | assumption | omega | (simp; done) | (simp; omega) | (intro hg; simp +decide only [go_sem, hg]; done) | (intro hg; simp +decide only [go_sem, hg]; omega)) ?_
  refine callF (rver_w _ _) ?_
  try simp +decide only [go_sem, Nat.reduceMul, Nat.reduceAdd, Nat.reduceBEq, cond_false]
  repeat with_reducible refine And.intro (by first | assumption | omega | (simp; done) | (simp; omega) | (intro hg; simp +decide only [go_sem, hg]; done) | (intro hg; simp +decide only [go_sem, hg]; omega)) ?_
  refine hκ _ _ ?_; clear hκ hξ ξ κ
  refine sq ?_
  refine sq ?_
  refine rg [0, 11] [] [] (by kernel_rfl) ?_; intro κ ξ hκ hξ
  try simp +decide only [go_sem, Nat.reduceMul, Nat.reduceAdd, Nat.reduceBEq, cond_false]
  repeat with_reducible refine And.intro (by first | assumption | omega | (simp; done) | (simp; omega) | (intro hg; simp +decide only [go_sem, hg]; done) | (intro hg; simp +decide only [go_sem, hg]; omega)) ?_
  refine hκ _ _ ?_; clear hκ hξ ξ κ
  refine cd (by rfl) (fun c0 => ?_) (fun c0 => ?_)
  · simp only [go_sem] at c0
    refine sq ?_
    refine rg [2, 3, 4] [] [] (by kernel_rfl) ?_; intro κ ξ hκ hξ
    try simp +decide only [go_sem, Nat.reduceMul, Nat.reduceAdd, Nat.reduceBEq, cond_false, c0]
    repeat with_reducible refine And.intro (by first | assumption | omega | (simp; done) | (simp; omega) | (intro hg; simp +decide only [go_sem, hg]; done) | (intro hg; simp +decide only [go_sem, hg]; omega)) ?_
    refine hκ _ _ ?_; clear hκ hξ ξ κ
    refine rt ?_
    refine retL ?_
    simp +decide only [go_sem, resD, resV, c0]
    have e : holdR l = ([], 0, 1) := by
      unfold holdR
      rw [if_pos c0]
    rw [e]
    exact DLe.tup ⟨DLe.nil 6 0 .nil, DLe.refl _, DLe.refl _, trivial⟩
  · simp only [go_sem] at c0
    have hv := c0
    refine sk ?_
    refine sq ?_
    refine sq ?_
    refine rg [0, 14] [] [] (by kernel_rfl) ?_; intro κ ξ hκ hξ
    try simp +decide only [go_sem, Nat.reduceMul, Nat.reduceAdd, Nat.reduceBEq, cond_false, c0]
    repeat with_reducible refine And.intro (by first | assumption | omega | (simp; done) | (simp; omega) | (intro hg; simp +decide only [go_sem, hg]; done) | (intro hg; simp +decide only [go_sem, hg]; omega)) ?_
    refine hκ _ _ ?_; clear hκ hξ ξ κ
    refine cd (by rfl) (fun c1 => ?_) (fun c1 => ?_)
    · simp only [go_sem] at c1
      refine sq ?_
      refine rg [2, 3, 4] [] [] (by kernel_rfl) ?_; intro κ ξ hκ hξ
      try simp +decide only [go_sem, Nat.reduceMul, Nat.reduceAdd, Nat.reduceBEq, cond_false, c0, c1]
      repeat with_reducible refine And.intro (by first | assumption | omega | (simp; done) | (simp; omega) | (intro hg; simp +decide only [go_sem, hg]; done) | (intro hg; simp +decide only [go_sem, hg]; omega)) ?_
      refine hκ _ _ ?_; clear hκ hξ ξ κ
      refine rt ?_
      refine retL ?_
      simp +decide only [go_sem, resD, resV, c0, c1]
      have e : holdR l = ([], 0, 4) := by
        unfold holdR
        rw [hv, if_neg (by simp), if_pos (by omega)]
      rw [e]
      exact DLe.tup ⟨DLe.nil 6 0 .nil, DLe.refl _, DLe.refl _, trivial⟩
    · simp only [go_sem] at c1
      obtain ⟨k, hk⟩ : ∃ k : Nat, (l.length : Int) - 1 = (k : Int) := ⟨l.length - 1, by omega⟩
      have hkN : l.length - 1 = k := by omega
      have hkl : (k : Int) < l.length := by omega
      have hki : k < l.length := by omega
      have hvk := vok_true.1 ((ver_true.1 hv).2 k (by omega))
      have hl5 := (ver_true.1 hv).1
      have hlw : IntKind.wrap .i64 (k : Int) = k := w64 (by omega)
      have hdr := ve_drop hki
      have hm1 : (k * 6 + 1) % 6 = 1 := by omega
      have hd1 : (k * 6 + 1) / 6 = k := by omega
      have hne2 : l.map verow ≠ [] := by intro e; rw [List.map_eq_nil_iff] at e; rw [e] at hki; simp at hki
      refine sk ?_
      refine sq ?_
      refine rg [0, 6] [] [] (by kernel_rfl) ?_; intro κ ξ hκ hξ
      try simp +decide only [go_sem, Nat.reduceMul, Nat.reduceAdd, Nat.reduceBEq, cond_false, c0, c1, hk, hkl, hlw, hdr, hm1, hd1]
      repeat with_reducible refine And.intro (by first | assumption | omega | (simp; done) | (simp; omega) | (intro hg; simp +decide only [go_sem, hg]; done) | (intro hg; simp +decide only [go_sem, hg]; omega)) ?_
      refine hκ _ _ ?_; clear hκ hξ ξ κ
      refine sq ?_
      refine rg [0, 6] [17] [] (by kernel_rfl) ?_; intro κ ξ hκ hξ
      try simp +decide only [go_sem, Nat.reduceMul, Nat.reduceAdd, Nat.reduceBEq, cond_false, c0, c1, hk, hkl, hlw, hdr, hm1, hd1]
      repeat with_reducible refine And.intro (by first | assumption | omega | (simp; done) | (simp; omega) | (intro hg; simp +decide only [go_sem, hg]; done) | (intro hg; simp +decide only [go_sem, hg]; omega)) ?_
      refine .inl (nappM_nil rfl rfl (by simp +decide only [go_sem, Option.isSome_some]) tf86 tf87 tf179 (by (refine ⟨⟨rfl, by decide, by decide⟩, by rw [List.all_map]; exact List.all_eq_true.2 fun _ _ => rfl, hne2, ?_⟩; rw [List.length_map]; simp [capB]; omega)) ?_); intro b17 c17 hb17 hc17
      rw [List.length_map] at hc17
      try simp +decide only [go_sem, Nat.reduceMul, Nat.reduceAdd, Nat.reduceBEq, cond_false, c0, c1, hk, hkl, hlw, hdr, hm1, hd1, hb17]
      repeat with_reducible refine And.intro (by first | assumption | omega | (simp; done) | (simp; omega) | (intro hg; simp +decide only [go_sem, hg]; done) | (intro hg; simp +decide only [go_sem, hg]; omega)) ?_
      refine hκ _ _ ?_; clear hκ hξ ξ κ
      refine sq ?_
      refine rg [6, 7] [] [] (by kernel_rfl) ?_; intro κ ξ hκ hξ
      try simp +decide only [go_sem, Nat.reduceMul, Nat.reduceAdd, Nat.reduceBEq, cond_false, c0, c1, hk, hkl, hlw, hdr, hm1, hd1, hb17]
      repeat with_reducible refine And.intro (by first | assumption | omega | (simp; done) | (simp; omega) | (intro hg; simp +decide only [go_sem, hg]; done) | (intro hg; simp +decide only [go_sem, hg]; omega)) ?_
      refine hκ _ _ ?_; clear hκ hξ ξ κ
      refine sq ?_
      refine sq ?_
      refine rg [6, 7, 26] [] [] (by kernel_rfl) ?_; intro κ ξ hκ hξ
      try simp +decide only [go_sem, Nat.reduceMul, Nat.reduceAdd, Nat.reduceBEq, cond_false, c0, c1, hk, hkl, hlw, hdr, hm1, hd1, hb17]
      repeat with_reducible refine And.intro (by first | assumption | omega | (simp; done) | (simp; omega) | (intro hg; simp +decide only [go_sem, hg]; done) | (intro hg; simp +decide only [go_sem, hg]; omega)) ?_
      refine hκ _ _ ?_; clear hκ hξ ξ κ
      refine cd (by rfl) (fun c2 => ?_) (fun c2 => ?_)
      · simp only [go_sem] at c2
        refine sq ?_
        refine rg [2, 3, 4] [] [] (by kernel_rfl) ?_; intro κ ξ hκ hξ
        try simp +decide only [go_sem, Nat.reduceMul, Nat.reduceAdd, Nat.reduceBEq, cond_false, c0, c1, hk, hkl, hlw, hdr, hm1, hd1, hb17, c2]
        repeat with_reducible refine And.intro (by first | assumption | omega | (simp; done) | (simp; omega) | (intro hg; simp +decide only [go_sem, hg]; done) | (intro hg; simp +decide only [go_sem, hg]; omega)) ?_
        refine hκ _ _ ?_; clear hκ hξ ξ κ
        refine rt ?_
        refine retL ?_
        simp +decide only [go_sem, resD, resV, c0, c1, hk, hkl, hlw, hdr, hm1, hd1, hb17, c2]
        have e : holdR l = ([], 0, 2) := by
          unfold holdR
          rw [hv, if_neg (by simp), if_neg (by omega), hkN, if_pos c2]
        rw [e]
        exact DLe.tup ⟨DLe.nil 6 0 .nil, DLe.refl _, DLe.refl _, trivial⟩
      · simp only [go_sem] at c2
        have hw : IntKind.wrap .i64 ((veat l k).holds + 1) = (held (veat l k) 1).holds := by rw [w64 (by omega)]; rfl
        have hset := ve_set (held (veat l k) 1) hki rfl rfl
        refine sk ?_
        refine sq ?_
        refine rg [6, 7] [] [] (by kernel_rfl) ?_; intro κ ξ hκ hξ
        try simp +decide only [go_sem, Nat.reduceMul, Nat.reduceAdd, Nat.reduceBEq, cond_false, c0, c1, hk, hkl, hlw, hdr, hm1, hd1, hb17, c2, hw, hset]
        repeat with_reducible refine And.intro (by first | assumption | omega | (simp; done) | (simp; omega) | (intro hg; simp +decide only [go_sem, hg]; done) | (intro hg; simp +decide only [go_sem, hg]; omega)) ?_
        refine hκ _ _ ?_; clear hκ hξ ξ κ
        obtain ⟨l2, hl2⟩ : ∃ l2, l2 = l.set k (held (veat l k) 1) := ⟨_, rfl⟩
        rw [← hl2]
        have hl2n : l2.length = l.length := by rw [hl2, List.length_set]
        have hv2 : veat l2 k = held (veat l k) 1 := by rw [hl2, veat_set _ hki]
        have hdr2 := ve_drop0 (l := l2) (i := k) (by omega)
        rw [hv2] at hdr2
        replace hdr2 : List.drop (k * 6 + 0) (l2.map verow).flatten = _ := hdr2
        refine sq ?_
        refine rgd [2, 3, 4] [] [] [] (by kernel_rfl) (by kernel_rfl) ?_; intro κ ξ hκ hξ
        try simp +decide only [go_sem, Nat.reduceMul, Nat.reduceAdd, Nat.reduceBEq, cond_false, c0, c1, hk, hkl, hlw, hdr, hm1, hd1, hb17, c2, hw, hset, hdr2, hl2n]
        repeat with_reducible refine And.intro (by first | assumption | omega | (simp; done) | (simp; omega) | (intro hg; simp +decide only [go_sem, hg]; done) | (intro hg; simp +decide only [go_sem, hg]; omega)) ?_
        refine hκ _ _ ?_; clear hκ hξ ξ κ
        refine fza b17 [2] [] (sz := 6) (rows := l2.map verow) (cap := c17) (by simp [Store.get]) ?_
        refine weak (mk [(2, .sl 6 (l2.map verow) .no), (3, .int .i64 (veat l k).num), (4, .int .i64 0)]) (EnvLe.of_l ⟨?_, rfl, rfl, trivial⟩) (List.nil_sublist _) ?_
        · show fra b17 6 (l2.map verow) (.arr b17 6 l.length c17) = _
          exact fra_arr ⟨by rw [List.length_map, hl2n], hc17, by unfold lim; omega⟩
        refine rt ?_
        refine retL ?_
        simp +decide only [go_sem, resD, resV, c0, c1, hk, hkl, hlw, hdr, hm1, hd1, hb17, c2, hw, hset, hdr2, hl2n]
        have e : holdR l = (l2, (veat l k).num, 0) := by
          unfold holdR
          rw [hv, if_neg (by simp), if_neg (by omega), hkN, if_neg c2]
          unfold chg
          rw [if_neg (by omega), hl2]
        rw [e]
        exact DLe.refl _

end Go.Proofs.YtjjkgeeafjagkaaGreat
